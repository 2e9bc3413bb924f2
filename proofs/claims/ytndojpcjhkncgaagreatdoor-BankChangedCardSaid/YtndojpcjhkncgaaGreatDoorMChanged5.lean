/- Part 5 of a proof: the texts QFlaw36text, SAcc, QFlaw36BankChanged, SChanged, Open, OpenB, LaidZ, put together by a program of this repo. -/
import Derived.ProofKit
import Derived.SizedLaws
import Derived.Deep.Slices
import Derived.OpenShut
import Derived.Test.YtndojpcjhkncgaaGreatDoorRows
import Derived.Lib.LaidTab
import Derived.LaidMore
import Derived.LaidHandle
import Derived.MakeChecks
import Derived.Stop.LaidErr
import Derived.Shelf.Vars
import Derived.Test.YtndojpcjhkncgaaGreatDoorMChanged1
import Derived.Test.YtndojpcjhkncgaaGreatDoorMChanged2
import Derived.Test.YtndojpcjhkncgaaGreatDoorMChanged4
import Derived.Test.YtndojpcjhkncgaaGreatDoorMChanged3

section
namespace Go.Proofs.YtndojpcjhkncgaaGreatDoor.Q
open Go.RowKit Go.Proofs.YtndojpcjhkncgaaGreatDoorW.PrintWords Go.Proofs.YtndojpcjhkncgaaGreatDoorW.PrintLast Go.Proofs.YtndojpcjhkncgaaGreatDoorW.PrintMore
attribute [local go_sem] max2_int min2_int max_two min_two max_three min_three max_four min_four   -- for this text's walks alone
set_option linter.unusedVariables false
set_option linter.unusedSimpArgs false
def annuitantlaw36_text.j0 : Nat → Bool → Bool → Int → Int → List (S47) → Int → Int → List (S49) → Option (ByteArray)
 | 0, _, _, _, _, _, _, _, _ => none
 | k + 1, x2, x20, x572000, x572001, x572002, x573000, x573001, x573002 => if x20 = true then (some (⟨#[]⟩ : ByteArray)) else (if x2 = true then ((bank_WriteAnswer.f k x573000 x573001 x573002).bind fun bt573 => (some bt573.1)) else ((bank_Write.f k x572000 x572001 x572002).bind fun bt575 => (some bt575.1)))
def annuitantlaw36_text.f (k : Nat) (a0_0 : Int) (a0_1 : Int) (l0_2 : List (S47)) (a1_0 : Int) (a1_1 : Int) (l1_2 : List (S49)) (a2 : Bool) : Option (ByteArray) := if (l0_2.length : Int) > 30 then (annuitantlaw36_text.j0 k a2 true a0_0 a0_1 l0_2 a1_0 a1_1 l1_2) else (annuitantlaw36_text.j0 k a2 (decide ((l1_2.length : Int) > 30)) a0_0 a0_1 l0_2 a1_0 a1_1 l1_2)
set_option maxHeartbeats 8000000 in
set_option maxRecDepth 100000 in
theorem annuitantlaw36_text.calls (k : Nat) (a0_0 : Int) (a0_1 : Int) (A0_2 : Option Addr) (c0_2 : Nat) (l0_2 : List (S47)) (a1_0 : Int) (a1_1 : Int) (A1_2 : Option Addr) (c1_2 : Nat) (l1_2 : List (S49)) (a2 : Bool) (r : ByteArray) (w : World) (hr0_2 : Kd.C k47 w A0_2 l0_2.length l0_2) (hc0_2 : l0_2.length ≤ c0_2) (hr1_2 : Kd.C k49 w A1_2 l1_2.length l1_2) (hc1_2 : l1_2.length ≤ c1_2) (hG : GG w) (h : annuitantlaw36_text.f k a0_0 a0_1 l0_2 a1_0 a1_1 l1_2 a2 = some r) :
  Calls Tryz.prog 20 #[.agg #[.int .i64 a0_0, .int .i64 a0_1, .slice A0_2 l0_2.length c0_2], .agg #[.int .i64 a1_0, .int .i64 a1_1, .slice A1_2 l1_2.length c1_2], .bool a2] w fun e w' => e = .returned (.string r) ∧ Below w.heap.size w w' := by
 have hu27 := Tryz.underlying27
 have hu30 := Tryz.underlying30
 have HG := Aside0.mk hG
 clear hG
 have HR0_2 := Aside0.mk hr0_2
 have HC0_2 := Aside0.mk hc0_2
 clear hr0_2 hc0_2
 have HR1_2 := Aside0.mk hr1_2
 have HC1_2 := Aside0.mk hc1_2
 clear hr1_2 hc1_2
 have HB := Aside0.mk (Below.refl w.heap.size w)
 have H : (if (l0_2.length : Int) > 30 then (annuitantlaw36_text.j0 k a2 true a0_0 a0_1 l0_2 a1_0 a1_1 l1_2) else (annuitantlaw36_text.j0 k a2 (decide ((l1_2.length : Int) > 30)) a0_0 a0_1 l0_2 a1_0 a1_1 l1_2)) = some r := h
 clear h
 have HC4 := Aside0.mk H
 clear H
 go_enter Tryz.func20, Tryz.ntmps20
 go_upto_region 1 with (first | ((with_reducible refine gate_dst (N := 3) rfl ?_); (try (refine gate_guard (by rfl) ?_; dsimp only)); refine box_event ?hg (N := 3) ?hd (cs := #[.int .i64 a0_0, .int .i64 a0_1, .slice A0_2 l0_2.length c0_2]) (t := 27) ?hr ?_; (case hd => rfl); (case hg => rfl); (case hr => first | (go_simp; done) | (go_simp; rfl)); intro gb571 hg w5 hbox hb; have n0_ := Aside0.mk (below_step (by repeat (first | (with_reducible first | exact HB.out | apply below_alloc | apply pw_below_drewN | apply below_drew1) | exact HB.out)) hb); have n1_ := Aside0.mk (hbox); have n2_ := Aside0.mk ((by rw [hg]; exact (below_size (by repeat (first | (with_reducible first | exact HB.out | apply below_alloc | apply pw_below_drewN | apply below_drew1) | exact HB.out))) : w.heap.size ≤ gb571)); have n3_ := Aside0.mk ((by rw [hg]; exact (below_size (by repeat (first | (with_reducible first | exact HB.out | apply below_alloc | apply pw_below_drewN | apply below_drew1) | exact HB.out))) : w.heap.size ≤ gb571)); clear HB; have HB := n0_; have BK571 := n1_; have GW571 := n2_; have GE571 := n3_; clear n0_ n1_ n2_ n3_; clear hb hbox hg) | ((with_reducible refine gate_dst (N := 4) rfl ?_); (try (refine gate_guard (by rfl) ?_; dsimp only)); refine box_event ?hg (N := 4) ?hd (cs := #[.int .i64 a1_0, .int .i64 a1_1, .slice A1_2 l1_2.length c1_2]) (t := 30) ?hr ?_; (case hd => rfl); (case hg => rfl); (case hr => first | (go_simp; done) | (go_simp; rfl)); intro gb572 hg w6 hbox hb; have n0_ := Aside0.mk (blk_below (g := gb571) (o := .cells #[.int .i64 a0_0, .int .i64 a0_1, .slice A0_2 l0_2.length c0_2] 27 (0, 0)) (by (with_reducible repeat (first | refine blk_drewN ?_ _ | refine blk_drew ?_ | refine blk_alloc ?_ _)); exact BK571.out) hb); have n1_ := Aside0.mk (below_step (by repeat (first | (with_reducible first | exact HB.out | apply below_alloc | apply pw_below_drewN | apply below_drew1 | refine below_set ?_ GE571.out) | exact HB.out)) hb); have n2_ := Aside0.mk (hbox); have n3_ := Aside0.mk ((by rw [hg]; exact (below_size (by repeat (first | (with_reducible first | exact HB.out | apply below_alloc | apply pw_below_drewN | apply below_drew1 | refine below_set ?_ GE571.out) | exact HB.out))) : w.heap.size ≤ gb572)); have n4_ := Aside0.mk ((by rw [hg]; exact (below_size (by repeat (first | (with_reducible first | exact HB.out | apply below_alloc | apply pw_below_drewN | apply below_drew1 | refine below_set ?_ GE571.out) | exact HB.out))) : w.heap.size ≤ gb572)); have n5_ := Aside0.mk ((by rw [hg]; exact Nat.ne_of_lt (blk_lt (g := gb571) (o := .cells #[.int .i64 a0_0, .int .i64 a0_1, .slice A0_2 l0_2.length c0_2] 27 (0, 0)) (by (with_reducible repeat (first | refine blk_drewN ?_ _ | refine blk_drew ?_ | refine blk_alloc ?_ _)); exact BK571.out)) : gb571 ≠ gb572)); have n6_ := Aside0.mk ((by rw [hg]; exact Nat.ne_of_gt (blk_lt (g := gb571) (o := .cells #[.int .i64 a0_0, .int .i64 a0_1, .slice A0_2 l0_2.length c0_2] 27 (0, 0)) (by (with_reducible repeat (first | refine blk_drewN ?_ _ | refine blk_drew ?_ | refine blk_alloc ?_ _)); exact BK571.out)) : gb572 ≠ gb571)); clear BK571; clear HB; have BK571 := n0_; have HB := n1_; have BK572 := n2_; have GW572 := n3_; have GE572 := n4_; have NB571_572 := n5_; have NB572_571 := n6_; clear n0_ n1_ n2_ n3_ n4_ n5_ n6_; clear hb hbox hg))
 (try simp only [Act.put, List.setIfInBounds_toArray, List.set_cons_zero, List.set_cons_succ])
 go_cut [20] (fun v20 wc => ∃ (kq : Nat) (x20_3 : Bool), v20 = .bool x20_3 ∧ Aside0 (annuitantlaw36_text.j0 kq a2 x20_3 a0_0 a0_1 l0_2 a1_0 a1_1 l1_2 = some r) ∧ Aside0 (kq ≤ k) ∧ Aside0 (wc.heap[gb571]? = some (.cells #[.int .i64 a0_0, .int .i64 a0_1, (.slice A0_2 l0_2.length c0_2)] 27 (0, 0))) ∧ Aside0 (wc.heap[gb572]? = some (.cells #[.int .i64 a1_0, .int .i64 a1_1, (.slice A1_2 l1_2.length c1_2)] 30 (0, 0))) ∧ Aside0 (Below w.heap.size w wc))
 case first =>
  have H := HC4.out
  clear HC4
  by_cases c7 : (l0_2.length : Int) > 30
  ·
   rw [if_pos c7] at H
   have c7b0 : decide (30 < (l0_2.length : Int)) = true := decide_eq_true c7
   have c7b1 : decide (30 < l0_2.length) = true := decide_eq_true (by omega)
   clear c7
   (first | rw [c7b0] | (simp only [i64_w, i32_w]; rw [c7b0]) | skip)
   have H' := Aside0.mk H
   clear H
   have hnb8 := NB571_572.out
   have hnc8 := NB572_571.out
   have hcz9_0 : w6.cell? ⟨gb571, 0, none⟩ = some (.int .i64 a0_0) := (blk_cell BK571.out 0).trans rfl
   have hcz9_1 : w6.cell? ⟨gb571, 1, none⟩ = some (.int .i64 a0_1) := (blk_cell BK571.out 1).trans rfl
   have hcz9_2 : w6.cell? ⟨gb571, 2, none⟩ = some (.slice A0_2 l0_2.length c0_2) := (blk_cell BK571.out 2).trans rfl
   have hfz9_0 := blk_frozen BK571.out 0
   have hfz9_1 := blk_frozen BK571.out 1
   have hfz9_2 := blk_frozen BK571.out 2
   go_wp2
   go_meet
   case rel => exact ⟨_, (true), (by first | rfl | (simp; done) | (simp [*]; done)), H', ⟨by first | omega | exact Nat.le_refl _⟩, ⟨by (with_reducible repeat (first | refine blk_drewN ?_ _ | refine blk_drew ?_ | refine blk_alloc ?_ _)); exact BK571.out⟩, ⟨by (with_reducible repeat (first | refine blk_drewN ?_ _ | refine blk_drew ?_ | refine blk_alloc ?_ _)); exact BK572.out⟩, ⟨by repeat (first | (with_reducible first | exact HB.out | apply below_alloc | apply pw_below_drewN | apply below_drew1 | refine below_set ?_ GE571.out | refine below_set ?_ GE572.out) | exact HB.out)⟩⟩
  ·
   rw [if_neg c7] at H
   have c7b0 : decide (30 < (l0_2.length : Int)) = false := decide_eq_false c7
   have c7b1 : decide (30 < l0_2.length) = false := decide_eq_false (by omega)
   clear c7
   (first | rw [c7b0] | (simp only [i64_w, i32_w]; rw [c7b0]) | skip)
   have H' := Aside0.mk H
   clear H
   have hnb10 := NB571_572.out
   have hnc10 := NB572_571.out
   have hcz11_0 : w6.cell? ⟨gb571, 0, none⟩ = some (.int .i64 a0_0) := (blk_cell BK571.out 0).trans rfl
   have hcz11_1 : w6.cell? ⟨gb571, 1, none⟩ = some (.int .i64 a0_1) := (blk_cell BK571.out 1).trans rfl
   have hcz11_2 : w6.cell? ⟨gb571, 2, none⟩ = some (.slice A0_2 l0_2.length c0_2) := (blk_cell BK571.out 2).trans rfl
   have hfz11_0 := blk_frozen BK571.out 0
   have hfz11_1 := blk_frozen BK571.out 1
   have hfz11_2 := blk_frozen BK571.out 2
   have hcz12_0 : w6.cell? ⟨gb572, 0, none⟩ = some (.int .i64 a1_0) := (blk_cell BK572.out 0).trans rfl
   have hcz12_1 : w6.cell? ⟨gb572, 1, none⟩ = some (.int .i64 a1_1) := (blk_cell BK572.out 1).trans rfl
   have hcz12_2 : w6.cell? ⟨gb572, 2, none⟩ = some (.slice A1_2 l1_2.length c1_2) := (blk_cell BK572.out 2).trans rfl
   have hfz12_0 := blk_frozen BK572.out 0
   have hfz12_1 := blk_frozen BK572.out 1
   have hfz12_2 := blk_frozen BK572.out 2
   go_wp2
   go_meet
   case rel => exact ⟨_, (decide ((l1_2.length : Int) > 30)), (by first | rfl | (simp; done) | (simp [*]; done)), H', ⟨by first | omega | exact Nat.le_refl _⟩, ⟨by (with_reducible repeat (first | refine blk_drewN ?_ _ | refine blk_drew ?_ | refine blk_alloc ?_ _)); exact BK571.out⟩, ⟨by (with_reducible repeat (first | refine blk_drewN ?_ _ | refine blk_drew ?_ | refine blk_alloc ?_ _)); exact BK572.out⟩, ⟨by repeat (first | (with_reducible first | exact HB.out | apply below_alloc | apply pw_below_drewN | apply below_drew1 | refine below_set ?_ GE571.out | refine below_set ?_ GE572.out) | exact HB.out)⟩⟩
 case rest =>
  clear HC4
  try clear c1
  try clear c2
  try clear p2
  try clear c7
  try clear c7b0
  try clear c7b1
  try clear c8
  try clear c10
  try clear hcz11_0
  try clear hcz11_1
  try clear hcz11_2
  try clear hcz12_0
  try clear hcz12_1
  try clear hcz12_2
  try clear hcz9_0
  try clear hcz9_1
  try clear hcz9_2
  try clear hfz11_0
  try clear hfz11_1
  try clear hfz11_2
  try clear hfz12_0
  try clear hfz12_1
  try clear hfz12_2
  try clear hfz9_0
  try clear hfz9_1
  try clear hfz9_2
  obtain ⟨kq, x20_3, rfl, HA, HJ3, BK571, BK572, HB⟩ := hcut
  cases kq with
  | zero => exact absurd HA.out (by simp [annuitantlaw36_text.j0])
  | succ kj3 =>
   have H := HA.out
   clear HA
   simp only [annuitantlaw36_text.j0] at H
   by_cases c13 : x20_3 = true
   ·
    subst c13
    have H1 : (some (⟨#[]⟩ : ByteArray)) = some r := by rw [if_pos rfl] at H; exact H
    clear H
    have H := H1
    clear H1
    obtain rfl := Option.some.inj H
    go_wp2
    go_ret
    exact ⟨by first | rfl | (simp [errW_none, errW_some] <;> rfl) | (simp [*, errW_none, errW_some] <;> rfl), by repeat (first | (with_reducible first | exact HB.out | apply below_alloc | apply pw_below_drewN | apply below_drew1 | refine below_set ?_ GE571.out | refine below_set ?_ GE572.out) | exact HB.out)⟩
   ·
    replace c13 := Bool.eq_false_iff.mpr c13
    subst c13
    have H1 : (if a2 = true then ((bank_WriteAnswer.f kj3 a1_0 a1_1 l1_2).bind fun bt573 => (some bt573.1)) else ((bank_Write.f kj3 a0_0 a0_1 l0_2).bind fun bt575 => (some bt575.1))) = some r := by rw [if_neg (show ¬ (false = true) by decide)] at H; exact H
    clear H
    have H := H1
    clear H1
    by_cases c14 : a2 = true
    ·
     subst c14
     have H1 : ((bank_WriteAnswer.f kj3 a1_0 a1_1 l1_2).bind fun bt573 => (some bt573.1)) = some r := by rw [if_pos rfl] at H; exact H
     clear H
     have H := H1
     clear H1
     replace H := Option.bind_eq_some_iff.mp H
     obtain ⟨⟨t573, t574⟩, A150, H⟩ := H
     replace H : (some t573) = some r := H
     have A15 := Aside0.mk A150
     clear A150
     obtain rfl := Option.some.inj H
     have hnb16 := NB572_571.out
     have hnc16 := NB571_572.out
     have hcz17_0 : wc.cell? ⟨gb572, 0, none⟩ = some (.int .i64 a1_0) := (blk_cell BK572.out 0).trans rfl
     have hcz17_1 : wc.cell? ⟨gb572, 1, none⟩ = some (.int .i64 a1_1) := (blk_cell BK572.out 1).trans rfl
     have hcz17_2 : wc.cell? ⟨gb572, 2, none⟩ = some (.slice A1_2 l1_2.length c1_2) := (blk_cell BK572.out 2).trans rfl
     have hfz17_0 := blk_frozen BK572.out 0
     have hfz17_1 := blk_frozen BK572.out 1
     have hfz17_2 := blk_frozen BK572.out 2
     go_wp2_with (first | ((with_reducible refine gate_callee (f := 29) rfl ?_); refine goesL_ (some 24) rfl rfl Tryz.func29 (by kernel_rfl) rfl #[.agg #[.int .i64 a1_0, .int .i64 a1_1, .slice A1_2 l1_2.length c1_2]] rfl (by (try simp only [List.map_toArray, List.map_cons, List.map_nil]); first | done | rfl | (simp only [List.length_drop, List.length_take]; rfl)) ?_; (with_reducible refine (bank_WriteAnswer.calls kj3 a1_0 a1_1 _ _ l1_2 t573 t574 _ ?side1 ?side2 ?side3 A15.out).mono ?_); (case side1 => repeat (first | exact (Kd.C_below HR1_2.out HB.out) | (with_reducible refine Kd.C_alloc ?_ _) | (with_reducible refine Kd.C_drewN ?_ _) | (with_reducible refine Kd.C_drew ?_))); (case side2 => exact HC1_2.out); (case side3 => exact GG.below HG.out (by repeat (first | (with_reducible first | exact HB.out | apply below_alloc | apply pw_below_drewN | apply below_drew1 | refine below_set ?_ GE571.out | refine below_set ?_ GE572.out) | exact HB.out))); rintro e w18 ⟨rfl, hb⟩; refine ⟨_, rfl, ?_⟩; have n0_ := Aside0.mk (blk_below (g := gb571) (o := .cells #[.int .i64 a0_0, .int .i64 a0_1, .slice A0_2 l0_2.length c0_2] 27 (0, 0)) (by (with_reducible repeat (first | refine blk_drewN ?_ _ | refine blk_drew ?_ | refine blk_alloc ?_ _)); exact BK571.out) hb); have n1_ := Aside0.mk (blk_below (g := gb572) (o := .cells #[.int .i64 a1_0, .int .i64 a1_1, .slice A1_2 l1_2.length c1_2] 30 (0, 0)) (by (with_reducible repeat (first | refine blk_drewN ?_ _ | refine blk_drew ?_ | refine blk_alloc ?_ _)); exact BK572.out) hb); have n2_ := Aside0.mk (below_step (by repeat (first | (with_reducible first | exact HB.out | apply below_alloc | apply pw_below_drewN | apply below_drew1 | refine below_set ?_ GE571.out | refine below_set ?_ GE572.out) | exact HB.out)) hb); clear BK571; clear BK572; clear HB; have BK571 := n0_; have BK572 := n1_; have HB := n2_; clear n0_ n1_ n2_; (try clear hb); (try clear hb2); (try clear hk); (try clear hi)))
     go_ret
     exact ⟨by first | rfl | (simp [errW_none, errW_some] <;> rfl) | (simp [*, errW_none, errW_some] <;> rfl), by repeat (first | (with_reducible first | exact HB.out | apply below_alloc | apply pw_below_drewN | apply below_drew1 | refine below_set ?_ GE571.out | refine below_set ?_ GE572.out) | exact HB.out)⟩
    ·
     replace c14 := Bool.eq_false_iff.mpr c14
     subst c14
     have H1 : ((bank_Write.f kj3 a0_0 a0_1 l0_2).bind fun bt575 => (some bt575.1)) = some r := by rw [if_neg (show ¬ (false = true) by decide)] at H; exact H
     clear H
     have H := H1
     clear H1
     replace H := Option.bind_eq_some_iff.mp H
     obtain ⟨⟨t575, t576⟩, A190, H⟩ := H
     replace H : (some t575) = some r := H
     have A19 := Aside0.mk A190
     clear A190
     obtain rfl := Option.some.inj H
     have hnb20 := NB571_572.out
     have hnc20 := NB572_571.out
     have hcz21_0 : wc.cell? ⟨gb571, 0, none⟩ = some (.int .i64 a0_0) := (blk_cell BK571.out 0).trans rfl
     have hcz21_1 : wc.cell? ⟨gb571, 1, none⟩ = some (.int .i64 a0_1) := (blk_cell BK571.out 1).trans rfl
     have hcz21_2 : wc.cell? ⟨gb571, 2, none⟩ = some (.slice A0_2 l0_2.length c0_2) := (blk_cell BK571.out 2).trans rfl
     have hfz21_0 := blk_frozen BK571.out 0
     have hfz21_1 := blk_frozen BK571.out 1
     have hfz21_2 := blk_frozen BK571.out 2
     go_wp2_with (first | ((with_reducible refine gate_callee (f := 23) rfl ?_); refine goesL_ (some 30) rfl rfl Tryz.func23 (by kernel_rfl) rfl #[.agg #[.int .i64 a0_0, .int .i64 a0_1, .slice A0_2 l0_2.length c0_2]] rfl (by (try simp only [List.map_toArray, List.map_cons, List.map_nil]); first | done | rfl | (simp only [List.length_drop, List.length_take]; rfl)) ?_; (with_reducible refine (bank_Write.calls kj3 a0_0 a0_1 _ _ l0_2 t575 t576 _ ?side1 ?side2 ?side3 A19.out).mono ?_); (case side1 => repeat (first | exact (Kd.C_below HR0_2.out HB.out) | (with_reducible refine Kd.C_alloc ?_ _) | (with_reducible refine Kd.C_drewN ?_ _) | (with_reducible refine Kd.C_drew ?_))); (case side2 => exact HC0_2.out); (case side3 => exact GG.below HG.out (by repeat (first | (with_reducible first | exact HB.out | apply below_alloc | apply pw_below_drewN | apply below_drew1 | refine below_set ?_ GE571.out | refine below_set ?_ GE572.out) | exact HB.out))); rintro e w22 ⟨rfl, hb⟩; refine ⟨_, rfl, ?_⟩; have n0_ := Aside0.mk (blk_below (g := gb571) (o := .cells #[.int .i64 a0_0, .int .i64 a0_1, .slice A0_2 l0_2.length c0_2] 27 (0, 0)) (by (with_reducible repeat (first | refine blk_drewN ?_ _ | refine blk_drew ?_ | refine blk_alloc ?_ _)); exact BK571.out) hb); have n1_ := Aside0.mk (blk_below (g := gb572) (o := .cells #[.int .i64 a1_0, .int .i64 a1_1, .slice A1_2 l1_2.length c1_2] 30 (0, 0)) (by (with_reducible repeat (first | refine blk_drewN ?_ _ | refine blk_drew ?_ | refine blk_alloc ?_ _)); exact BK572.out) hb); have n2_ := Aside0.mk (below_step (by repeat (first | (with_reducible first | exact HB.out | apply below_alloc | apply pw_below_drewN | apply below_drew1 | refine below_set ?_ GE571.out | refine below_set ?_ GE572.out) | exact HB.out)) hb); clear BK571; clear BK572; clear HB; have BK571 := n0_; have BK572 := n1_; have HB := n2_; clear n0_ n1_ n2_; (try clear hb); (try clear hb2); (try clear hk); (try clear hi)))
     go_ret
     exact ⟨by first | rfl | (simp [errW_none, errW_some] <;> rfl) | (simp [*, errW_none, errW_some] <;> rfl), by repeat (first | (with_reducible first | exact HB.out | apply below_alloc | apply pw_below_drewN | apply below_drew1 | refine below_set ?_ GE571.out | refine below_set ?_ GE572.out) | exact HB.out)⟩
end Go.Proofs.YtndojpcjhkncgaaGreatDoor.Q
end

section
namespace Go.Proofs.YtndojpcjhkncgaaGreatDoor.Q
open Go Go.RowKit Go.Proofs.YtndojpcjhkncgaaGreatDoorW.PrintWords
set_option linter.unusedVariables false
set_option linter.unusedSimpArgs false
def accB (t : List UInt8) : Bool := decide ((fileR t).2.2.2 = 0) || decide ((answerR t).2.2.2 = 0)
def IsText (t : List UInt8) : Prop := ∃ H x, t = H ++ endL H ∧ H = x ++ [10] ∧ (0 : UInt8) ∉ H ∧ t.length ≤ 1048576
theorem line_no0 (w : List UInt8) (hw : (0 : UInt8) ∉ w) (ns : List Int) : (0 : UInt8) ∉ lineL w ns := by
  unfold lineL
  intro hm
  rcases List.mem_append.mp hm with hm | hm
  · rcases List.mem_append.mp hm with hm | hm
    · exact hw hm
    · exact numsL_no 0 ns (by decide) (by decide) (by decide) hm
  · rw [List.mem_singleton] at hm
    exact absurd hm (by decide)
theorem lines_no0 (w1 w2 : List UInt8) (h1 : (0 : UInt8) ∉ w1) (h2 : (0 : UInt8) ∉ w2) (a : List Int) (rs : List (List Int)) : (0 : UInt8) ∉ lineL w1 a ++ rs.flatMap (lineL w2) := by
  intro hm
  rcases List.mem_append.mp hm with hm | hm
  · exact line_no0 w1 h1 a hm
  · obtain ⟨r, _, hr⟩ := List.mem_flatMap.mp hm
    exact line_no0 w2 h2 r hr
theorem isText_file (n d : Int) (L : List S47) (h : (fileText n d L).length ≤ 1048576) : IsText (fileText n d L) := by
  obtain ⟨_, _, x, hx⟩ := text_lines payL orderW (by decide) (by decide) [n, d, (L.length : Int), netSum L] (L.map ofOrd)
  rw [← fileL_lines] at hx
  exact ⟨_, x, rfl, hx, by rw [fileL_lines]; exact lines_no0 payL orderW (by decide) (by decide) _ _, h⟩
theorem isText_answer (n d : Int) (L : List S49) (h : (answerText n d L).length ≤ 1048576) : IsText (answerText n d L) := by
  obtain ⟨_, _, x, hx⟩ := text_lines backL returnW (by decide) (by decide) [n, d, (L.length : Int)] (L.map ofRet)
  rw [← answerL_lines] at hx
  exact ⟨_, x, rfl, hx, by rw [answerL_lines]; exact lines_no0 backL returnW (by decide) (by decide) _ _, h⟩
theorem isText_acc (t : List UInt8) (h : accB t = true) : IsText t := by
  unfold accB at h
  rw [Bool.or_eq_true, decide_eq_true_iff, decide_eq_true_iff] at h
  rcases h with h | h
  · rcases hf : fileR t with ⟨n, d, L, e⟩
    rw [hf] at h
    have h : e = 0 := h
    subst h
    obtain ⟨_, ht, hl⟩ := fileR_zero t n d L hf
    rw [ht] at hl ⊢
    exact isText_file n d L hl
  · rcases hf : answerR t with ⟨n, d, L, e⟩
    rw [hf] at h
    have h : e = 0 := h
    subst h
    obtain ⟨_, ht, hl⟩ := answerR_zero t n d L hf
    rw [ht] at hl ⊢
    exact isText_answer n d L hl
theorem acc_file (n d : Int) (L : List S47) (h : validB n d L = true) : accB (fileText n d L) = true := by
  unfold accB
  rw [fileR_text n d L h]
  rfl
theorem acc_answer (n d : Int) (L : List S49) (h : rightB n d L = true) : accB (answerText n d L) = true := by
  unfold accB
  rw [answerR_text n d L h, Bool.or_eq_true]
  exact .inr rfl
theorem accepted_ev (t : List UInt8) (h : t.length ≤ 4611686018427387904) : Ev (fun k => annuitantlaw36_accepted.f k (B t)) (accB t) := by
  unfold annuitantlaw36_accepted.f
  refine Ev.bind (Read_ev t h) (Ev.bind (ReadAnswer_ev t h) ?_)
  unfold accB
  by_cases he : (fileR t).2.2.2 = 0
  · exact Ev.pos he (Ev.ret (by rw [decide_eq_true he]; rfl))
  · refine Ev.neg he (Ev.ret ?_)
    rw [decide_eq_false he, Bool.false_or, Bool.eq_iff_iff, beq_iff_eq, decide_eq_true_iff]
theorem acc_insert (s : List UInt8) (hs : accB s = true) (i : Nat) (c : UInt8) (hi : i ≤ s.length) : accB (s.take i ++ c :: s.drop i) = false := by
  cases h : accB (s.take i ++ c :: s.drop i) with
  | false => rfl
  | true =>
    exfalso
    obtain ⟨H, x, rfl, hx, _, _⟩ := isText_acc s hs
    obtain ⟨H', x', h1, hx', h0, _⟩ := isText_acc _ h
    exact insert_no H H' x' hx' h0 i c (by rw [List.length_append, endL_len] at hi; exact hi) h1.symm
theorem acc_remove (s : List UInt8) (hs : accB s = true) (i : Nat) (hi : i < s.length) : accB (s.take i ++ s.drop (i + 1)) = false := by
  cases h : accB (s.take i ++ s.drop (i + 1)) with
  | false => rfl
  | true =>
    exfalso
    have hl : (s.take i).length = i := by rw [List.length_take]; omega
    have h2 := acc_insert _ h i s[i] (by rw [List.length_append, hl]; omega)
    rw [List.take_left' hl, List.drop_left' hl, ← List.drop_eq_getElem_cons hi, List.take_append_drop, hs] at h2
    cases h2
theorem acc_replace (s : List UInt8) (hs : accB s = true) (i : Nat) (c : UInt8) (hi : i < s.length) (hc : s[i] ≠ c) : accB (s.take i ++ c :: s.drop (i + 1)) = false := by
  have hset : s.take i ++ c :: s.drop (i + 1) = s.set i c := by rw [List.set_eq_take_append_cons_drop, if_pos hi]
  rw [hset]
  cases h : accB (s.set i c) with
  | false => rfl
  | true =>
    exfalso
    obtain ⟨H, x, rfl, hx, _, _⟩ := isText_acc s hs
    obtain ⟨H', x', h1, hx', h0, _⟩ := isText_acc _ h
    have := replace_no H H' i c (by rw [List.length_append, endL_len] at hi; exact hi) h1.symm
    rw [List.getElem?_eq_getElem hi] at this
    exact hc (Option.some.inj this)
theorem B_cut (s : List UInt8) (i : Nat) : (B s).extract 0 i = B (s.take i) := by
  unfold B
  apply ByteArray.ext
  simp [ByteArray.data_extract, List.extract]
theorem B_rest (s : List UInt8) (i : Nat) : (B s).extract i (B s).size = B (s.drop i) := by
  rw [B_size]
  unfold B
  apply ByteArray.ext
  simp [ByteArray.data_extract, List.extract]
  exact List.take_of_length_le (Nat.le_of_eq List.length_drop)
theorem B_one (c : Int) : strOfNums [c] = B [UInt8.ofNat c.toNat] := by rw [B_nums]; rfl
theorem insert_ev (s : List UInt8) (hs : s.length ≤ 4611686018427387904) (i : Nat) (hi : i ≤ s.length) (c : Int) : annuitantlaw36_change.f (B s) (i : Int) 1 c = some (B (s.take i ++ UInt8.ofNat c.toNat :: s.drop i)) := by
  have h1 : (s.take i).length + 1 + (s.drop i).length ≤ 9223372036854775807 := by rw [List.length_take, List.length_drop]; omega
  unfold annuitantlaw36_change.f
  rw [if_neg (by decide), if_pos rfl, if_pos (by omega), if_pos (by rw [B_size]; omega), Option.bind_some, show ((i : Int)).toNat = i from rfl, B_cut, B_rest, B_one, B_size (s.take i), B_size [UInt8.ofNat c.toNat], B_size (s.drop i), if_pos (by simp only [List.length_singleton]; omega), if_pos (by simp only [List.length_singleton]; omega), B_cat, B_cat]
  congr 2
  simp
theorem remove_ev (s : List UInt8) (hs : s.length ≤ 4611686018427387904) (i : Nat) (hi : i < s.length) (c : Int) : annuitantlaw36_change.f (B s) (i : Int) 2 c = some (B (s.take i ++ s.drop (i + 1))) := by
  have h1 : (s.take i).length + (s.drop (i + 1)).length ≤ 9223372036854775807 := by rw [List.length_take, List.length_drop]; omega
  unfold annuitantlaw36_change.f
  rw [if_neg (by decide), if_neg (by decide), if_pos (by omega), if_pos (by rw [B_size]; omega), show wrap64 ((i : Int) + 1) = ((i + 1 : Nat) : Int) from w64 (by omega) (by omega), if_pos (by omega), if_pos (by rw [B_size]; omega), show ((i : Int)).toNat = i from rfl, show (((i + 1 : Nat) : Int)).toNat = i + 1 from rfl, B_cut, B_rest, B_size (s.take i), B_size (s.drop (i + 1)), if_pos h1, B_cat]
theorem replace_ev (s : List UInt8) (hs : s.length ≤ 4611686018427387904) (i : Nat) (hi : i < s.length) (c : Int) : annuitantlaw36_change.f (B s) (i : Int) 0 c = some (B (s.take i ++ UInt8.ofNat c.toNat :: s.drop (i + 1))) := by
  have h1 : (s.take i).length + 1 + (s.drop (i + 1)).length ≤ 9223372036854775807 := by rw [List.length_take, List.length_drop]; omega
  unfold annuitantlaw36_change.f
  rw [if_pos rfl, if_pos (by omega), if_pos (by rw [B_size]; omega), Option.bind_some, show wrap64 ((i : Int) + 1) = ((i + 1 : Nat) : Int) from w64 (by omega) (by omega), show ((i : Int)).toNat = i from rfl, show (((i + 1 : Nat) : Int)).toNat = i + 1 from rfl, B_cut, B_rest, B_one, B_size (s.take i), B_size [UInt8.ofNat c.toNat], B_size (s.drop (i + 1)), if_pos (by simp only [List.length_singleton]; omega), if_pos (by omega), if_pos (by rw [B_size]; omega), if_pos (by simp only [List.length_singleton]; omega), B_cat, B_cat]
  congr 2
  simp
def textS (n1 d1 : Int) (L : List S47) (n2 d2 : Int) (R : List S49) (b : Bool) : List UInt8 :=
  if L.length > 30 ∨ R.length > 30 then [] else if b = true then (if rightB n2 d2 R = true then answerText n2 d2 R else []) else (if validB n1 d1 L = true then fileText n1 d1 L else [])
theorem text_ev (n1 d1 : Int) (L : List S47) (n2 d2 : Int) (R : List S49) (b : Bool) (hL : (L.length : Int) ≤ 4611686018427387904) (hR : (R.length : Int) ≤ 4611686018427387904) : Ev (fun k => annuitantlaw36_text.f k n1 d1 L n2 d2 R b) (B (textS n1 d1 L n2 d2 R b)) := by
  have hj : ∀ x : Bool, Ev (fun k => annuitantlaw36_text.j0 k b x n1 d1 L n2 d2 R) (if x = true then B [] else if b = true then (answerS n2 d2 R).1 else (writeS n1 d1 L).1) := by
    intro x
    refine Ev.step (fun k => by rw [annuitantlaw36_text.j0]) ?_
    cases x with
    | true => exact Ev.pos rfl (Ev.ret rfl)
    | false =>
      refine Ev.neg (by simp) ?_
      cases b with
      | true => exact Ev.pos rfl (Ev.bind (WriteAnswer_ev n2 d2 R hR) (Ev.ret rfl))
      | false => exact Ev.neg (by simp) (Ev.bind (Write_ev n1 d1 L hL) (Ev.ret rfl))
  unfold annuitantlaw36_text.f
  by_cases h1 : (L.length : Int) > 30
  · refine Ev.pos h1 (Ev.eq (hj true) ?_)
    unfold textS
    rw [if_pos rfl, if_pos (by omega)]
  · refine Ev.neg h1 (Ev.eq (hj _) ?_)
    unfold textS
    by_cases h2 : (R.length : Int) > 30
    · rw [decide_eq_true h2, if_pos rfl, if_pos (Or.inr (by omega))]
    · have e1 : ¬ (L.length > 30 ∨ R.length > 30) := by omega
      rw [decide_eq_false h2, if_neg e1]
      cases b with
      | true =>
        show (answerS n2 d2 R).1 = B (if rightB n2 d2 R = true then answerText n2 d2 R else [])
        unfold answerS
        split <;> rfl
      | false =>
        show (writeS n1 d1 L).1 = B (if validB n1 d1 L = true then fileText n1 d1 L else [])
        unfold writeS
        split <;> rfl
theorem textS_acc (n1 d1 : Int) (L : List S47) (n2 d2 : Int) (R : List S49) (b : Bool) : textS n1 d1 L n2 d2 R b = [] ∨ accB (textS n1 d1 L n2 d2 R b) = true ∧ (textS n1 d1 L n2 d2 R b).length ≤ 1048576 := by
  unfold textS
  split
  · exact .inl rfl
  · split
    · split
      · rename_i v
        exact .inr ⟨acc_answer n2 d2 R v, by have := answerText_len v; have := right_parts v; omega⟩
      · exact .inl rfl
    · split
      · rename_i v
        exact .inr ⟨acc_file n1 d1 L v, by have := fileText_len v; have := valid_orders v; omega⟩
      · exact .inl rfl
end Go.Proofs.YtndojpcjhkncgaaGreatDoor.Q
end

section
namespace Go.Proofs.YtndojpcjhkncgaaGreatDoor.Q
open Go.RowKit Go.Proofs.YtndojpcjhkncgaaGreatDoorW.PrintWords Go.Proofs.YtndojpcjhkncgaaGreatDoorW.PrintLast Go.Proofs.YtndojpcjhkncgaaGreatDoorW.PrintMore
attribute [local go_sem] max2_int min2_int max_two min_two max_three min_three max_four min_four   -- for this text's walks alone
set_option linter.unusedVariables false
set_option linter.unusedSimpArgs false
mutual
def annuitantlaw36_BankChanged.j0 : Nat → Int → Int → ByteArray → Bool → Option (Bool)
 | 0, _, _, _, _ => none
 | k + 1, x3, x4, x11, x29 => if x29 = true then (some true) else ((annuitantlaw36_accepted.f k x11).bind fun t595 => (if t595 = true then ((annuitantlaw36_change.f x11 x3 1 x4).bind fun t596 => ((annuitantlaw36_accepted.f k t596).bind fun t597 => (annuitantlaw36_BankChanged.j1 k x3 x4 x11 t597))) else (annuitantlaw36_BankChanged.j1 k x3 x4 x11 true)))
def annuitantlaw36_BankChanged.j1 : Nat → Int → Int → ByteArray → Bool → Option (Bool)
 | 0, _, _, _, _ => none
 | k + 1, x3, x4, x11, x39 => if x39 = true then (some false) else (if x3 = (x11.size : Int) then (some true) else ((annuitantlaw36_change.f x11 x3 2 0).bind fun t598 => ((annuitantlaw36_accepted.f k t598).bind fun t599 => (if t599 = true then (some false) else (if 0 ≤ x3 then (if x3 < (x11.size : Int) then (if (bt x11 x3) = x4 then (some true) else ((annuitantlaw36_change.f x11 x3 0 x4).bind fun t600 => ((annuitantlaw36_accepted.f k t600).bind fun t601 => (some (!t601))))) else (none)) else (none))))))
end
def annuitantlaw36_BankChanged.f (k : Nat) (a0_0 : Int) (a0_1 : Int) (l0_2 : List (S47)) (a1_0 : Int) (a1_1 : Int) (l1_2 : List (S49)) (a2 : Bool) (a3 : Int) (a4 : Int) : Option (Bool) := (annuitantlaw36_awake.f k).bind fun t593 => (if t593 = true then ((annuitantlaw36_text.f k a0_0 a0_1 l0_2 a1_0 a1_1 l1_2 a2).bind fun t594 => (if t594.toList = ([] : List UInt8) then (annuitantlaw36_BankChanged.j0 k a3 a4 t594 true) else (if a3 < 0 then (annuitantlaw36_BankChanged.j0 k a3 a4 t594 true) else (annuitantlaw36_BankChanged.j0 k a3 a4 t594 (decide (a3 > (t594.size : Int))))))) else (some false))
set_option maxHeartbeats 8000000 in
set_option maxRecDepth 100000 in
theorem annuitantlaw36_BankChanged.calls (k : Nat) (a0_0 : Int) (a0_1 : Int) (A0_2 : Option Addr) (c0_2 : Nat) (l0_2 : List (S47)) (a1_0 : Int) (a1_1 : Int) (A1_2 : Option Addr) (c1_2 : Nat) (l1_2 : List (S49)) (a2 : Bool) (a3 : Int) (a4 : Int) (r : Bool) (w : World) (hr0_2 : Kd.C k47 w A0_2 l0_2.length l0_2) (hc0_2 : l0_2.length ≤ c0_2) (hr1_2 : Kd.C k49 w A1_2 l1_2.length l1_2) (hc1_2 : l1_2.length ≤ c1_2) (hG : GG w) (h : annuitantlaw36_BankChanged.f k a0_0 a0_1 l0_2 a1_0 a1_1 l1_2 a2 a3 a4 = some r) :
  Calls Tryz.prog 5 #[.agg #[.int .i64 a0_0, .int .i64 a0_1, .slice A0_2 l0_2.length c0_2], .agg #[.int .i64 a1_0, .int .i64 a1_1, .slice A1_2 l1_2.length c1_2], .bool a2, .int .i64 a3, .int .u8 a4] w fun e w' => e = .returned (.bool r) ∧ Below w.heap.size w w' := by
 have hu27 := Tryz.underlying27
 have hu30 := Tryz.underlying30
 have HG := Aside0.mk hG
 clear hG
 have HR0_2 := Aside0.mk hr0_2
 have HC0_2 := Aside0.mk hc0_2
 clear hr0_2 hc0_2
 have HR1_2 := Aside0.mk hr1_2
 have HC1_2 := Aside0.mk hc1_2
 clear hr1_2 hc1_2
 have HB := Aside0.mk (Below.refl w.heap.size w)
 have H : ((annuitantlaw36_awake.f k).bind fun t593 => (if t593 = true then ((annuitantlaw36_text.f k a0_0 a0_1 l0_2 a1_0 a1_1 l1_2 a2).bind fun t594 => (if t594.toList = ([] : List UInt8) then (annuitantlaw36_BankChanged.j0 k a3 a4 t594 true) else (if a3 < 0 then (annuitantlaw36_BankChanged.j0 k a3 a4 t594 true) else (annuitantlaw36_BankChanged.j0 k a3 a4 t594 (decide (a3 > (t594.size : Int))))))) else (some false))) = some r := h
 clear h
 replace H := Option.bind_eq_some_iff.mp H
 obtain ⟨t593, A60, H⟩ := H
 replace H : (if t593 = true then ((annuitantlaw36_text.f k a0_0 a0_1 l0_2 a1_0 a1_1 l1_2 a2).bind fun t594 => (if t594.toList = ([] : List UInt8) then (annuitantlaw36_BankChanged.j0 k a3 a4 t594 true) else (if a3 < 0 then (annuitantlaw36_BankChanged.j0 k a3 a4 t594 true) else (annuitantlaw36_BankChanged.j0 k a3 a4 t594 (decide (a3 > (t594.size : Int))))))) else (some false)) = some r := H
 have A6 := Aside0.mk A60
 clear A60
 by_cases c7 : t593 = true
 ·
  subst c7
  have H1 : ((annuitantlaw36_text.f k a0_0 a0_1 l0_2 a1_0 a1_1 l1_2 a2).bind fun t594 => (if t594.toList = ([] : List UInt8) then (annuitantlaw36_BankChanged.j0 k a3 a4 t594 true) else (if a3 < 0 then (annuitantlaw36_BankChanged.j0 k a3 a4 t594 true) else (annuitantlaw36_BankChanged.j0 k a3 a4 t594 (decide (a3 > (t594.size : Int))))))) = some r := by rw [if_pos rfl] at H; exact H
  clear H
  have H := H1
  clear H1
  replace H := Option.bind_eq_some_iff.mp H
  obtain ⟨t594, A80, H⟩ := H
  replace H : (if t594.toList = ([] : List UInt8) then (annuitantlaw36_BankChanged.j0 k a3 a4 t594 true) else (if a3 < 0 then (annuitantlaw36_BankChanged.j0 k a3 a4 t594 true) else (annuitantlaw36_BankChanged.j0 k a3 a4 t594 (decide (a3 > (t594.size : Int)))))) = some r := H
  have A8 := Aside0.mk A80
  clear A80
  have HC9 := Aside0.mk H
  clear H
  go_enter Tryz.func5, Tryz.ntmps5
  go_upto_region 4 with (first | ((with_reducible refine gate_dst (N := 5) rfl ?_); (try (refine gate_guard (by rfl) ?_; dsimp only)); refine box_event ?hg (N := 5) ?hd (cs := #[.int .i64 a0_0, .int .i64 a0_1, .slice A0_2 l0_2.length c0_2]) (t := 27) ?hr ?_; (case hd => rfl); (case hg => rfl); (case hr => first | (go_simp; done) | (go_simp; rfl)); intro gb591 hg w10 hbox hb; have n0_ := Aside0.mk (below_step (by repeat (first | (with_reducible first | exact HB.out | apply below_alloc | apply pw_below_drewN | apply below_drew1) | exact HB.out)) hb); have n1_ := Aside0.mk (hbox); have n2_ := Aside0.mk ((by rw [hg]; exact (below_size (by repeat (first | (with_reducible first | exact HB.out | apply below_alloc | apply pw_below_drewN | apply below_drew1) | exact HB.out))) : w.heap.size ≤ gb591)); have n3_ := Aside0.mk ((by rw [hg]; exact (below_size (by repeat (first | (with_reducible first | exact HB.out | apply below_alloc | apply pw_below_drewN | apply below_drew1) | exact HB.out))) : w.heap.size ≤ gb591)); clear HB; have HB := n0_; have BK591 := n1_; have GW591 := n2_; have GE591 := n3_; clear n0_ n1_ n2_ n3_; clear hb hbox hg) | ((with_reducible refine gate_dst (N := 6) rfl ?_); (try (refine gate_guard (by rfl) ?_; dsimp only)); refine box_event ?hg (N := 6) ?hd (cs := #[.int .i64 a1_0, .int .i64 a1_1, .slice A1_2 l1_2.length c1_2]) (t := 30) ?hr ?_; (case hd => rfl); (case hg => rfl); (case hr => first | (go_simp; done) | (go_simp; rfl)); intro gb592 hg w11 hbox hb; have n0_ := Aside0.mk (blk_below (g := gb591) (o := .cells #[.int .i64 a0_0, .int .i64 a0_1, .slice A0_2 l0_2.length c0_2] 27 (0, 0)) (by (with_reducible repeat (first | refine blk_drewN ?_ _ | refine blk_drew ?_ | refine blk_alloc ?_ _)); exact BK591.out) hb); have n1_ := Aside0.mk (below_step (by repeat (first | (with_reducible first | exact HB.out | apply below_alloc | apply pw_below_drewN | apply below_drew1 | refine below_set ?_ GE591.out) | exact HB.out)) hb); have n2_ := Aside0.mk (hbox); have n3_ := Aside0.mk ((by rw [hg]; exact (below_size (by repeat (first | (with_reducible first | exact HB.out | apply below_alloc | apply pw_below_drewN | apply below_drew1 | refine below_set ?_ GE591.out) | exact HB.out))) : w.heap.size ≤ gb592)); have n4_ := Aside0.mk ((by rw [hg]; exact (below_size (by repeat (first | (with_reducible first | exact HB.out | apply below_alloc | apply pw_below_drewN | apply below_drew1 | refine below_set ?_ GE591.out) | exact HB.out))) : w.heap.size ≤ gb592)); have n5_ := Aside0.mk ((by rw [hg]; exact Nat.ne_of_lt (blk_lt (g := gb591) (o := .cells #[.int .i64 a0_0, .int .i64 a0_1, .slice A0_2 l0_2.length c0_2] 27 (0, 0)) (by (with_reducible repeat (first | refine blk_drewN ?_ _ | refine blk_drew ?_ | refine blk_alloc ?_ _)); exact BK591.out)) : gb591 ≠ gb592)); have n6_ := Aside0.mk ((by rw [hg]; exact Nat.ne_of_gt (blk_lt (g := gb591) (o := .cells #[.int .i64 a0_0, .int .i64 a0_1, .slice A0_2 l0_2.length c0_2] 27 (0, 0)) (by (with_reducible repeat (first | refine blk_drewN ?_ _ | refine blk_drew ?_ | refine blk_alloc ?_ _)); exact BK591.out)) : gb592 ≠ gb591)); clear BK591; clear HB; have BK591 := n0_; have HB := n1_; have BK592 := n2_; have GW592 := n3_; have GE592 := n4_; have NB591_592 := n5_; have NB592_591 := n6_; clear n0_ n1_ n2_ n3_ n4_ n5_ n6_; clear hb hbox hg) | ((with_reducible refine gate_callee (f := 9) rfl ?_); refine goesL_ (some 12) rfl rfl Tryz.func9 (by kernel_rfl) rfl #[] rfl (by (try simp only [List.map_toArray, List.map_cons, List.map_nil]); first | done | rfl | (simp only [List.length_drop, List.length_take]; rfl)) ?_; (with_reducible refine (annuitantlaw36_awake.calls k  true _ ?side1 A6.out).mono ?_); (case side1 => exact GG.below HG.out (by repeat (first | (with_reducible first | exact HB.out | apply below_alloc | apply pw_below_drewN | apply below_drew1 | refine below_set ?_ GE591.out | refine below_set ?_ GE592.out) | exact HB.out))); rintro e w12 ⟨rfl, hb⟩; refine ⟨_, rfl, ?_⟩; have n0_ := Aside0.mk (blk_below (g := gb591) (o := .cells #[.int .i64 a0_0, .int .i64 a0_1, .slice A0_2 l0_2.length c0_2] 27 (0, 0)) (by (with_reducible repeat (first | refine blk_drewN ?_ _ | refine blk_drew ?_ | refine blk_alloc ?_ _)); exact BK591.out) hb); have n1_ := Aside0.mk (blk_below (g := gb592) (o := .cells #[.int .i64 a1_0, .int .i64 a1_1, .slice A1_2 l1_2.length c1_2] 30 (0, 0)) (by (with_reducible repeat (first | refine blk_drewN ?_ _ | refine blk_drew ?_ | refine blk_alloc ?_ _)); exact BK592.out) hb); have n2_ := Aside0.mk (below_step (by repeat (first | (with_reducible first | exact HB.out | apply below_alloc | apply pw_below_drewN | apply below_drew1 | refine below_set ?_ GE591.out | refine below_set ?_ GE592.out) | exact HB.out)) hb); clear BK591; clear BK592; clear HB; have BK591 := n0_; have BK592 := n1_; have HB := n2_; clear n0_ n1_ n2_; (try clear hb); (try clear hb2); (try clear hk); (try clear hi); have hnb13 := NB591_592.out; have hnc13 := NB592_591.out; have hcz14_0 : w12.cell? ⟨gb591, 0, none⟩ = some (.int .i64 a0_0) := (blk_cell BK591.out 0).trans rfl; have hcz14_1 : w12.cell? ⟨gb591, 1, none⟩ = some (.int .i64 a0_1) := (blk_cell BK591.out 1).trans rfl; have hcz14_2 : w12.cell? ⟨gb591, 2, none⟩ = some (.slice A0_2 l0_2.length c0_2) := (blk_cell BK591.out 2).trans rfl; have hfz14_0 := blk_frozen BK591.out 0; have hfz14_1 := blk_frozen BK591.out 1; have hfz14_2 := blk_frozen BK591.out 2; have hcz15_0 : w12.cell? ⟨gb592, 0, none⟩ = some (.int .i64 a1_0) := (blk_cell BK592.out 0).trans rfl; have hcz15_1 : w12.cell? ⟨gb592, 1, none⟩ = some (.int .i64 a1_1) := (blk_cell BK592.out 1).trans rfl; have hcz15_2 : w12.cell? ⟨gb592, 2, none⟩ = some (.slice A1_2 l1_2.length c1_2) := (blk_cell BK592.out 2).trans rfl; have hfz15_0 := blk_frozen BK592.out 0; have hfz15_1 := blk_frozen BK592.out 1; have hfz15_2 := blk_frozen BK592.out 2) | ((with_reducible refine gate_callee (f := 20) rfl ?_); refine goesL_ (some 17) rfl rfl Tryz.func20 (by kernel_rfl) rfl #[.agg #[.int .i64 a0_0, .int .i64 a0_1, .slice A0_2 l0_2.length c0_2], .agg #[.int .i64 a1_0, .int .i64 a1_1, .slice A1_2 l1_2.length c1_2], .bool a2] rfl (by (try simp only [List.map_toArray, List.map_cons, List.map_nil]); first | done | rfl | (simp only [List.length_drop, List.length_take]; rfl)) ?_; (with_reducible refine (annuitantlaw36_text.calls k a0_0 a0_1 _ _ l0_2 a1_0 a1_1 _ _ l1_2 a2 t594 _ ?side1 ?side2 ?side3 ?side4 ?side5 A8.out).mono ?_); (case side1 => repeat (first | exact (Kd.C_below HR0_2.out HB.out) | (with_reducible refine Kd.C_alloc ?_ _) | (with_reducible refine Kd.C_drewN ?_ _) | (with_reducible refine Kd.C_drew ?_))); (case side2 => exact HC0_2.out); (case side3 => repeat (first | exact (Kd.C_below HR1_2.out HB.out) | (with_reducible refine Kd.C_alloc ?_ _) | (with_reducible refine Kd.C_drewN ?_ _) | (with_reducible refine Kd.C_drew ?_))); (case side4 => exact HC1_2.out); (case side5 => exact GG.below HG.out (by repeat (first | (with_reducible first | exact HB.out | apply below_alloc | apply pw_below_drewN | apply below_drew1 | refine below_set ?_ GE591.out | refine below_set ?_ GE592.out) | exact HB.out))); rintro e w16 ⟨rfl, hb⟩; refine ⟨_, rfl, ?_⟩; have n0_ := Aside0.mk (blk_below (g := gb591) (o := .cells #[.int .i64 a0_0, .int .i64 a0_1, .slice A0_2 l0_2.length c0_2] 27 (0, 0)) (by (with_reducible repeat (first | refine blk_drewN ?_ _ | refine blk_drew ?_ | refine blk_alloc ?_ _)); exact BK591.out) hb); have n1_ := Aside0.mk (blk_below (g := gb592) (o := .cells #[.int .i64 a1_0, .int .i64 a1_1, .slice A1_2 l1_2.length c1_2] 30 (0, 0)) (by (with_reducible repeat (first | refine blk_drewN ?_ _ | refine blk_drew ?_ | refine blk_alloc ?_ _)); exact BK592.out) hb); have n2_ := Aside0.mk (below_step (by repeat (first | (with_reducible first | exact HB.out | apply below_alloc | apply pw_below_drewN | apply below_drew1 | refine below_set ?_ GE591.out | refine below_set ?_ GE592.out) | exact HB.out)) hb); clear BK591; clear BK592; clear HB; have BK591 := n0_; have BK592 := n1_; have HB := n2_; clear n0_ n1_ n2_; (try clear hb); (try clear hb2); (try clear hk); (try clear hi)))
  (try simp only [Act.put, List.setIfInBounds_toArray, List.set_cons_zero, List.set_cons_succ])
  go_cut [29] (fun v29 wc => ∃ (kq : Nat) (x29_8 : Bool), v29 = .bool x29_8 ∧ Aside0 (annuitantlaw36_BankChanged.j0 kq a3 a4 t594 x29_8 = some r) ∧ Aside0 (kq ≤ k) ∧ Aside0 (wc.heap[gb591]? = some (.cells #[.int .i64 a0_0, .int .i64 a0_1, (.slice A0_2 l0_2.length c0_2)] 27 (0, 0))) ∧ Aside0 (wc.heap[gb592]? = some (.cells #[.int .i64 a1_0, .int .i64 a1_1, (.slice A1_2 l1_2.length c1_2)] 30 (0, 0))) ∧ Aside0 (Below w.heap.size w wc))
  case first =>
   have H := HC9.out
   clear HC9
   by_cases c17 : t594.toList = ([] : List UInt8)
   ·
    rw [if_pos c17] at H
    have c17b0 : (t594.toList == ([] : List UInt8)) = true := beq_iff_eq.mpr c17
    have c17b1 : (t594.toList != ([] : List UInt8)) = false := bne_eq_false_iff_eq.mpr c17
    clear c17
    (first | rw [c17b0] | (simp only [i64_w, i32_w]; rw [c17b0]) | skip)
    have H' := Aside0.mk H
    clear H
    go_wp2
    go_meet
    case rel => exact ⟨_, (true), (by first | rfl | (simp; done) | (simp [*]; done)), H', ⟨by first | omega | exact Nat.le_refl _⟩, ⟨by (with_reducible repeat (first | refine blk_drewN ?_ _ | refine blk_drew ?_ | refine blk_alloc ?_ _)); exact BK591.out⟩, ⟨by (with_reducible repeat (first | refine blk_drewN ?_ _ | refine blk_drew ?_ | refine blk_alloc ?_ _)); exact BK592.out⟩, ⟨by repeat (first | (with_reducible first | exact HB.out | apply below_alloc | apply pw_below_drewN | apply below_drew1 | refine below_set ?_ GE591.out | refine below_set ?_ GE592.out) | exact HB.out)⟩⟩
   ·
    rw [if_neg c17] at H
    have c17b0 : (t594.toList == ([] : List UInt8)) = false := beq_eq_false_iff_ne.mpr c17
    have c17b1 : (t594.toList != ([] : List UInt8)) = true := bne_iff_ne.mpr c17
    (first | rw [c17b0] | (simp only [i64_w, i32_w]; rw [c17b0]) | skip)
    by_cases c18 : a3 < 0
    ·
     rw [if_pos c18] at H
     have c18b0 : decide (a3 < 0) = true := decide_eq_true c18
     clear c18
     have H' := Aside0.mk H
     clear H
     go_wp2
     go_meet
     case rel => exact ⟨_, (true), (by first | rfl | (simp; done) | (simp [*]; done)), H', ⟨by first | omega | exact Nat.le_refl _⟩, ⟨by (with_reducible repeat (first | refine blk_drewN ?_ _ | refine blk_drew ?_ | refine blk_alloc ?_ _)); exact BK591.out⟩, ⟨by (with_reducible repeat (first | refine blk_drewN ?_ _ | refine blk_drew ?_ | refine blk_alloc ?_ _)); exact BK592.out⟩, ⟨by repeat (first | (with_reducible first | exact HB.out | apply below_alloc | apply pw_below_drewN | apply below_drew1 | refine below_set ?_ GE591.out | refine below_set ?_ GE592.out) | exact HB.out)⟩⟩
    ·
     rw [if_neg c18] at H
     have c18b0 : decide (a3 < 0) = false := decide_eq_false c18
     clear c18
     have H' := Aside0.mk H
     clear H
     go_wp2
     go_meet
     case rel => exact ⟨_, (decide (a3 > (t594.size : Int))), (by first | rfl | (simp; done) | (simp [*]; done)), H', ⟨by first | omega | exact Nat.le_refl _⟩, ⟨by (with_reducible repeat (first | refine blk_drewN ?_ _ | refine blk_drew ?_ | refine blk_alloc ?_ _)); exact BK591.out⟩, ⟨by (with_reducible repeat (first | refine blk_drewN ?_ _ | refine blk_drew ?_ | refine blk_alloc ?_ _)); exact BK592.out⟩, ⟨by repeat (first | (with_reducible first | exact HB.out | apply below_alloc | apply pw_below_drewN | apply below_drew1 | refine below_set ?_ GE591.out | refine below_set ?_ GE592.out) | exact HB.out)⟩⟩
  case rest =>
   clear HC9
   try clear c1
   try clear c2
   try clear p2
   try clear c5
   try clear c7
   try clear c9
   try clear c13
   try clear c17
   try clear c17b0
   try clear c17b1
   try clear c18
   try clear c18b0
   try clear hcz14_0
   try clear hcz14_1
   try clear hcz14_2
   try clear hcz15_0
   try clear hcz15_1
   try clear hcz15_2
   try clear hfz14_0
   try clear hfz14_1
   try clear hfz14_2
   try clear hfz15_0
   try clear hfz15_1
   try clear hfz15_2
   obtain ⟨kq, x29_8, rfl, HA, HJ8, BK591, BK592, HB⟩ := hcut
   cases kq with
   | zero => exact absurd HA.out (by simp [annuitantlaw36_BankChanged.j0])
   | succ kj8 =>
    have H := HA.out
    clear HA
    simp only [annuitantlaw36_BankChanged.j0] at H
    by_cases c19 : x29_8 = true
    ·
     subst c19
     have H1 : (some true) = some r := by rw [if_pos rfl] at H; exact H
     clear H
     have H := H1
     clear H1
     obtain rfl := Option.some.inj H
     go_wp2
     go_ret
     exact ⟨by first | rfl | (simp [errW_none, errW_some] <;> rfl) | (simp [*, errW_none, errW_some] <;> rfl), by repeat (first | (with_reducible first | exact HB.out | apply below_alloc | apply pw_below_drewN | apply below_drew1 | refine below_set ?_ GE591.out | refine below_set ?_ GE592.out) | exact HB.out)⟩
    ·
     replace c19 := Bool.eq_false_iff.mpr c19
     subst c19
     have H1 : ((annuitantlaw36_accepted.f kj8 t594).bind fun t595 => (if t595 = true then ((annuitantlaw36_change.f t594 a3 1 a4).bind fun t596 => ((annuitantlaw36_accepted.f kj8 t596).bind fun t597 => (annuitantlaw36_BankChanged.j1 kj8 a3 a4 t594 t597))) else (annuitantlaw36_BankChanged.j1 kj8 a3 a4 t594 true))) = some r := by rw [if_neg (show ¬ (false = true) by decide)] at H; exact H
     clear H
     have H := H1
     clear H1
     have HC20 := Aside0.mk H
     clear H
     go_upto_region 6 with (fail)
     go_cut [39] (fun v39 wc => ∃ (kq : Nat) (x39_19 : Bool), v39 = .bool x39_19 ∧ Aside0 (annuitantlaw36_BankChanged.j1 kq a3 a4 t594 x39_19 = some r) ∧ Aside0 (kq ≤ kj8) ∧ Aside0 (wc.heap[gb591]? = some (.cells #[.int .i64 a0_0, .int .i64 a0_1, (.slice A0_2 l0_2.length c0_2)] 27 (0, 0))) ∧ Aside0 (wc.heap[gb592]? = some (.cells #[.int .i64 a1_0, .int .i64 a1_1, (.slice A1_2 l1_2.length c1_2)] 30 (0, 0))) ∧ Aside0 (Below w.heap.size w wc))
     case first =>
      have H := HC20.out
      clear HC20
      replace H := Option.bind_eq_some_iff.mp H
      obtain ⟨t595, A210, H⟩ := H
      replace H : (if t595 = true then ((annuitantlaw36_change.f t594 a3 1 a4).bind fun t596 => ((annuitantlaw36_accepted.f kj8 t596).bind fun t597 => (annuitantlaw36_BankChanged.j1 kj8 a3 a4 t594 t597))) else (annuitantlaw36_BankChanged.j1 kj8 a3 a4 t594 true)) = some r := H
      have A21 := Aside0.mk A210
      clear A210
      by_cases c22 : t595 = true
      ·
       subst c22
       have H1 : ((annuitantlaw36_change.f t594 a3 1 a4).bind fun t596 => ((annuitantlaw36_accepted.f kj8 t596).bind fun t597 => (annuitantlaw36_BankChanged.j1 kj8 a3 a4 t594 t597))) = some r := by rw [if_pos rfl] at H; exact H
       clear H
       have H := H1
       clear H1
       replace H := Option.bind_eq_some_iff.mp H
       obtain ⟨t596, A230, H⟩ := H
       replace H : ((annuitantlaw36_accepted.f kj8 t596).bind fun t597 => (annuitantlaw36_BankChanged.j1 kj8 a3 a4 t594 t597)) = some r := H
       have A23 := Aside0.mk A230
       clear A230
       replace H := Option.bind_eq_some_iff.mp H
       obtain ⟨t597, A240, H⟩ := H
       replace H : (annuitantlaw36_BankChanged.j1 kj8 a3 a4 t594 t597) = some r := H
       have A24 := Aside0.mk A240
       clear A240
       have H' := Aside0.mk H
       clear H
       go_wp2_with (first | ((with_reducible refine gate_callee (f := 21) rfl ?_); refine goesL_ (some 31) rfl rfl Tryz.func21 (by kernel_rfl) rfl #[.string t594] rfl (by (try simp only [List.map_toArray, List.map_cons, List.map_nil]); first | done | rfl | (simp only [List.length_drop, List.length_take]; rfl)) ?_; (with_reducible refine (annuitantlaw36_accepted.calls kj8 t594 true _ ?side1 A21.out).mono ?_); (case side1 => exact GG.below HG.out (by repeat (first | (with_reducible first | exact HB.out | apply below_alloc | apply pw_below_drewN | apply below_drew1 | refine below_set ?_ GE591.out | refine below_set ?_ GE592.out) | exact HB.out))); rintro e w25 ⟨rfl, hb⟩; refine ⟨_, rfl, ?_⟩; have n0_ := Aside0.mk (blk_below (g := gb591) (o := .cells #[.int .i64 a0_0, .int .i64 a0_1, .slice A0_2 l0_2.length c0_2] 27 (0, 0)) (by (with_reducible repeat (first | refine blk_drewN ?_ _ | refine blk_drew ?_ | refine blk_alloc ?_ _)); exact BK591.out) hb); have n1_ := Aside0.mk (blk_below (g := gb592) (o := .cells #[.int .i64 a1_0, .int .i64 a1_1, .slice A1_2 l1_2.length c1_2] 30 (0, 0)) (by (with_reducible repeat (first | refine blk_drewN ?_ _ | refine blk_drew ?_ | refine blk_alloc ?_ _)); exact BK592.out) hb); have n2_ := Aside0.mk (below_step (by repeat (first | (with_reducible first | exact HB.out | apply below_alloc | apply pw_below_drewN | apply below_drew1 | refine below_set ?_ GE591.out | refine below_set ?_ GE592.out) | exact HB.out)) hb); clear BK591; clear BK592; clear HB; have BK591 := n0_; have BK592 := n1_; have HB := n2_; clear n0_ n1_ n2_; (try clear hb); (try clear hb2); (try clear hk); (try clear hi)) | (go_at_call 17; (with_reducible refine (annuitantlaw36_change.calls t594 a3 1 a4 t596 _ A23.out).mono ?_); rintro e w26 ⟨rfl, hb⟩; have n0_ := Aside0.mk (blk_below (g := gb591) (o := .cells #[.int .i64 a0_0, .int .i64 a0_1, .slice A0_2 l0_2.length c0_2] 27 (0, 0)) (by (with_reducible repeat (first | refine blk_drewN ?_ _ | refine blk_drew ?_ | refine blk_alloc ?_ _)); exact BK591.out) hb); have n1_ := Aside0.mk (blk_below (g := gb592) (o := .cells #[.int .i64 a1_0, .int .i64 a1_1, .slice A1_2 l1_2.length c1_2] 30 (0, 0)) (by (with_reducible repeat (first | refine blk_drewN ?_ _ | refine blk_drew ?_ | refine blk_alloc ?_ _)); exact BK592.out) hb); have n2_ := Aside0.mk (below_step (by repeat (first | (with_reducible first | exact HB.out | apply below_alloc | apply pw_below_drewN | apply below_drew1 | refine below_set ?_ GE591.out | refine below_set ?_ GE592.out) | exact HB.out)) hb); clear BK591; clear BK592; clear HB; have BK591 := n0_; have BK592 := n1_; have HB := n2_; clear n0_ n1_ n2_; (try clear hb); (try clear hb2); (try clear hk); (try clear hi)) | (go_at_call 21; (with_reducible refine (annuitantlaw36_accepted.calls kj8 t596 t597 _ ?side1 A24.out).mono ?_); (case side1 => exact GG.below HG.out (by repeat (first | (with_reducible first | exact HB.out | apply below_alloc | apply pw_below_drewN | apply below_drew1 | refine below_set ?_ GE591.out | refine below_set ?_ GE592.out) | exact HB.out))); rintro e w27 ⟨rfl, hb⟩; have n0_ := Aside0.mk (blk_below (g := gb591) (o := .cells #[.int .i64 a0_0, .int .i64 a0_1, .slice A0_2 l0_2.length c0_2] 27 (0, 0)) (by (with_reducible repeat (first | refine blk_drewN ?_ _ | refine blk_drew ?_ | refine blk_alloc ?_ _)); exact BK591.out) hb); have n1_ := Aside0.mk (blk_below (g := gb592) (o := .cells #[.int .i64 a1_0, .int .i64 a1_1, .slice A1_2 l1_2.length c1_2] 30 (0, 0)) (by (with_reducible repeat (first | refine blk_drewN ?_ _ | refine blk_drew ?_ | refine blk_alloc ?_ _)); exact BK592.out) hb); have n2_ := Aside0.mk (below_step (by repeat (first | (with_reducible first | exact HB.out | apply below_alloc | apply pw_below_drewN | apply below_drew1 | refine below_set ?_ GE591.out | refine below_set ?_ GE592.out) | exact HB.out)) hb); clear BK591; clear BK592; clear HB; have BK591 := n0_; have BK592 := n1_; have HB := n2_; clear n0_ n1_ n2_; (try clear hb); (try clear hb2); (try clear hk); (try clear hi)))
       go_meet
       case rel => exact ⟨_, (t597), (by first | rfl | (simp; done) | (simp [*]; done)), H', ⟨by have := HJ8.out; first | omega | exact Nat.le_refl _⟩, ⟨by (with_reducible repeat (first | refine blk_drewN ?_ _ | refine blk_drew ?_ | refine blk_alloc ?_ _)); exact BK591.out⟩, ⟨by (with_reducible repeat (first | refine blk_drewN ?_ _ | refine blk_drew ?_ | refine blk_alloc ?_ _)); exact BK592.out⟩, ⟨by repeat (first | (with_reducible first | exact HB.out | apply below_alloc | apply pw_below_drewN | apply below_drew1 | refine below_set ?_ GE591.out | refine below_set ?_ GE592.out) | exact HB.out)⟩⟩
      ·
       replace c22 := Bool.eq_false_iff.mpr c22
       subst c22
       have H1 : (annuitantlaw36_BankChanged.j1 kj8 a3 a4 t594 true) = some r := by rw [if_neg (show ¬ (false = true) by decide)] at H; exact H
       clear H
       have H := H1
       clear H1
       have H' := Aside0.mk H
       clear H
       go_wp2_with (first | ((with_reducible refine gate_callee (f := 21) rfl ?_); refine goesL_ (some 31) rfl rfl Tryz.func21 (by kernel_rfl) rfl #[.string t594] rfl (by (try simp only [List.map_toArray, List.map_cons, List.map_nil]); first | done | rfl | (simp only [List.length_drop, List.length_take]; rfl)) ?_; (with_reducible refine (annuitantlaw36_accepted.calls kj8 t594 false _ ?side1 A21.out).mono ?_); (case side1 => exact GG.below HG.out (by repeat (first | (with_reducible first | exact HB.out | apply below_alloc | apply pw_below_drewN | apply below_drew1 | refine below_set ?_ GE591.out | refine below_set ?_ GE592.out) | exact HB.out))); rintro e w28 ⟨rfl, hb⟩; refine ⟨_, rfl, ?_⟩; have n0_ := Aside0.mk (blk_below (g := gb591) (o := .cells #[.int .i64 a0_0, .int .i64 a0_1, .slice A0_2 l0_2.length c0_2] 27 (0, 0)) (by (with_reducible repeat (first | refine blk_drewN ?_ _ | refine blk_drew ?_ | refine blk_alloc ?_ _)); exact BK591.out) hb); have n1_ := Aside0.mk (blk_below (g := gb592) (o := .cells #[.int .i64 a1_0, .int .i64 a1_1, .slice A1_2 l1_2.length c1_2] 30 (0, 0)) (by (with_reducible repeat (first | refine blk_drewN ?_ _ | refine blk_drew ?_ | refine blk_alloc ?_ _)); exact BK592.out) hb); have n2_ := Aside0.mk (below_step (by repeat (first | (with_reducible first | exact HB.out | apply below_alloc | apply pw_below_drewN | apply below_drew1 | refine below_set ?_ GE591.out | refine below_set ?_ GE592.out) | exact HB.out)) hb); clear BK591; clear BK592; clear HB; have BK591 := n0_; have BK592 := n1_; have HB := n2_; clear n0_ n1_ n2_; (try clear hb); (try clear hb2); (try clear hk); (try clear hi)))
       go_meet
       case rel => exact ⟨_, (true), (by first | rfl | (simp; done) | (simp [*]; done)), H', ⟨by have := HJ8.out; first | omega | exact Nat.le_refl _⟩, ⟨by (with_reducible repeat (first | refine blk_drewN ?_ _ | refine blk_drew ?_ | refine blk_alloc ?_ _)); exact BK591.out⟩, ⟨by (with_reducible repeat (first | refine blk_drewN ?_ _ | refine blk_drew ?_ | refine blk_alloc ?_ _)); exact BK592.out⟩, ⟨by repeat (first | (with_reducible first | exact HB.out | apply below_alloc | apply pw_below_drewN | apply below_drew1 | refine below_set ?_ GE591.out | refine below_set ?_ GE592.out) | exact HB.out)⟩⟩
     case rest =>
      clear HC20
      try clear c1
      try clear c2
      try clear p2
      try clear c5
      try clear c7
      try clear c9
      try clear c13
      try clear c17
      try clear c17b0
      try clear c17b1
      try clear c18
      try clear c18b0
      try clear c19
      try clear c20
      try clear c21
      try clear c22
      try clear hcz14_0
      try clear hcz14_1
      try clear hcz14_2
      try clear hcz15_0
      try clear hcz15_1
      try clear hcz15_2
      try clear hfz14_0
      try clear hfz14_1
      try clear hfz14_2
      try clear hfz15_0
      try clear hfz15_1
      try clear hfz15_2
      try clear p2
      obtain ⟨kq, x39_19, rfl, HA, HJ19, BK591, BK592, HB⟩ := hcut
      cases kq with
      | zero => exact absurd HA.out (by simp [annuitantlaw36_BankChanged.j1])
      | succ kj19 =>
       have H := HA.out
       clear HA
       simp only [annuitantlaw36_BankChanged.j1] at H
       by_cases c29 : x39_19 = true
       ·
        subst c29
        have H1 : (some false) = some r := by rw [if_pos rfl] at H; exact H
        clear H
        have H := H1
        clear H1
        obtain rfl := Option.some.inj H
        go_wp2
        go_ret
        exact ⟨by first | rfl | (simp [errW_none, errW_some] <;> rfl) | (simp [*, errW_none, errW_some] <;> rfl), by repeat (first | (with_reducible first | exact HB.out | apply below_alloc | apply pw_below_drewN | apply below_drew1 | refine below_set ?_ GE591.out | refine below_set ?_ GE592.out) | exact HB.out)⟩
       ·
        replace c29 := Bool.eq_false_iff.mpr c29
        subst c29
        have H1 : (if a3 = (t594.size : Int) then (some true) else ((annuitantlaw36_change.f t594 a3 2 0).bind fun t598 => ((annuitantlaw36_accepted.f kj19 t598).bind fun t599 => (if t599 = true then (some false) else (if 0 ≤ a3 then (if a3 < (t594.size : Int) then (if (bt t594 a3) = a4 then (some true) else ((annuitantlaw36_change.f t594 a3 0 a4).bind fun t600 => ((annuitantlaw36_accepted.f kj19 t600).bind fun t601 => (some (!t601))))) else (none)) else (none)))))) = some r := by rw [if_neg (show ¬ (false = true) by decide)] at H; exact H
        clear H
        have H := H1
        clear H1
        by_cases c30 : a3 = (t594.size : Int)
        ·
         rw [if_pos c30] at H
         have c30b0 : (a3 == (t594.size : Int)) = true := beq_iff_eq.mpr c30
         have c30b1 : (a3 != (t594.size : Int)) = false := bne_eq_false_iff_eq.mpr c30
         clear c30
         obtain rfl := Option.some.inj H
         go_wp2
         go_ret
         exact ⟨by first | rfl | (simp [errW_none, errW_some] <;> rfl) | (simp [*, errW_none, errW_some] <;> rfl), by repeat (first | (with_reducible first | exact HB.out | apply below_alloc | apply pw_below_drewN | apply below_drew1 | refine below_set ?_ GE591.out | refine below_set ?_ GE592.out) | exact HB.out)⟩
        ·
         rw [if_neg c30] at H
         have c30b0 : (a3 == (t594.size : Int)) = false := beq_eq_false_iff_ne.mpr c30
         have c30b1 : (a3 != (t594.size : Int)) = true := bne_iff_ne.mpr c30
         replace H := Option.bind_eq_some_iff.mp H
         obtain ⟨t598, A310, H⟩ := H
         replace H : ((annuitantlaw36_accepted.f kj19 t598).bind fun t599 => (if t599 = true then (some false) else (if 0 ≤ a3 then (if a3 < (t594.size : Int) then (if (bt t594 a3) = a4 then (some true) else ((annuitantlaw36_change.f t594 a3 0 a4).bind fun t600 => ((annuitantlaw36_accepted.f kj19 t600).bind fun t601 => (some (!t601))))) else (none)) else (none)))) = some r := H
         have A31 := Aside0.mk A310
         clear A310
         replace H := Option.bind_eq_some_iff.mp H
         obtain ⟨t599, A320, H⟩ := H
         replace H : (if t599 = true then (some false) else (if 0 ≤ a3 then (if a3 < (t594.size : Int) then (if (bt t594 a3) = a4 then (some true) else ((annuitantlaw36_change.f t594 a3 0 a4).bind fun t600 => ((annuitantlaw36_accepted.f kj19 t600).bind fun t601 => (some (!t601))))) else (none)) else (none))) = some r := H
         have A32 := Aside0.mk A320
         clear A320
         by_cases c33 : t599 = true
         ·
          subst c33
          have H1 : (some false) = some r := by rw [if_pos rfl] at H; exact H
          clear H
          have H := H1
          clear H1
          obtain rfl := Option.some.inj H
          go_wp2_with (first | (go_at_call 17; (with_reducible refine (annuitantlaw36_change.calls t594 a3 2 0 t598 _ A31.out).mono ?_); rintro e w34 ⟨rfl, hb⟩; have n0_ := Aside0.mk (blk_below (g := gb591) (o := .cells #[.int .i64 a0_0, .int .i64 a0_1, .slice A0_2 l0_2.length c0_2] 27 (0, 0)) (by (with_reducible repeat (first | refine blk_drewN ?_ _ | refine blk_drew ?_ | refine blk_alloc ?_ _)); exact BK591.out) hb); have n1_ := Aside0.mk (blk_below (g := gb592) (o := .cells #[.int .i64 a1_0, .int .i64 a1_1, .slice A1_2 l1_2.length c1_2] 30 (0, 0)) (by (with_reducible repeat (first | refine blk_drewN ?_ _ | refine blk_drew ?_ | refine blk_alloc ?_ _)); exact BK592.out) hb); have n2_ := Aside0.mk (below_step (by repeat (first | (with_reducible first | exact HB.out | apply below_alloc | apply pw_below_drewN | apply below_drew1 | refine below_set ?_ GE591.out | refine below_set ?_ GE592.out) | exact HB.out)) hb); clear BK591; clear BK592; clear HB; have BK591 := n0_; have BK592 := n1_; have HB := n2_; clear n0_ n1_ n2_; (try clear hb); (try clear hb2); (try clear hk); (try clear hi)) | (go_at_call 21; (with_reducible refine (annuitantlaw36_accepted.calls kj19 t598 true _ ?side1 A32.out).mono ?_); (case side1 => exact GG.below HG.out (by repeat (first | (with_reducible first | exact HB.out | apply below_alloc | apply pw_below_drewN | apply below_drew1 | refine below_set ?_ GE591.out | refine below_set ?_ GE592.out) | exact HB.out))); rintro e w35 ⟨rfl, hb⟩; have n0_ := Aside0.mk (blk_below (g := gb591) (o := .cells #[.int .i64 a0_0, .int .i64 a0_1, .slice A0_2 l0_2.length c0_2] 27 (0, 0)) (by (with_reducible repeat (first | refine blk_drewN ?_ _ | refine blk_drew ?_ | refine blk_alloc ?_ _)); exact BK591.out) hb); have n1_ := Aside0.mk (blk_below (g := gb592) (o := .cells #[.int .i64 a1_0, .int .i64 a1_1, .slice A1_2 l1_2.length c1_2] 30 (0, 0)) (by (with_reducible repeat (first | refine blk_drewN ?_ _ | refine blk_drew ?_ | refine blk_alloc ?_ _)); exact BK592.out) hb); have n2_ := Aside0.mk (below_step (by repeat (first | (with_reducible first | exact HB.out | apply below_alloc | apply pw_below_drewN | apply below_drew1 | refine below_set ?_ GE591.out | refine below_set ?_ GE592.out) | exact HB.out)) hb); clear BK591; clear BK592; clear HB; have BK591 := n0_; have BK592 := n1_; have HB := n2_; clear n0_ n1_ n2_; (try clear hb); (try clear hb2); (try clear hk); (try clear hi)))
          go_ret
          exact ⟨by first | rfl | (simp [errW_none, errW_some] <;> rfl) | (simp [*, errW_none, errW_some] <;> rfl), by repeat (first | (with_reducible first | exact HB.out | apply below_alloc | apply pw_below_drewN | apply below_drew1 | refine below_set ?_ GE591.out | refine below_set ?_ GE592.out) | exact HB.out)⟩
         ·
          replace c33 := Bool.eq_false_iff.mpr c33
          subst c33
          have H1 : (if 0 ≤ a3 then (if a3 < (t594.size : Int) then (if (bt t594 a3) = a4 then (some true) else ((annuitantlaw36_change.f t594 a3 0 a4).bind fun t600 => ((annuitantlaw36_accepted.f kj19 t600).bind fun t601 => (some (!t601))))) else (none)) else (none)) = some r := by rw [if_neg (show ¬ (false = true) by decide)] at H; exact H
          clear H
          have H := H1
          clear H1
          by_cases c36 : 0 ≤ a3
          ·
           rw [if_pos c36] at H
           have c36b0 : decide (0 ≤ a3) = true := decide_eq_true c36
           clear c36
           by_cases c37 : a3 < (t594.size : Int)
           ·
            rw [if_pos c37] at H
            have c37b0 : decide (a3 < (t594.size : Int)) = true := decide_eq_true c37
            clear c37
            by_cases c39 : (bt t594 a3) = a4
            ·
             rw [if_pos c39] at H
             have c39b0 : ((bt t594 a3) == a4) = true := beq_iff_eq.mpr c39
             have c39b1 : ((bt t594 a3) != a4) = false := bne_eq_false_iff_eq.mpr c39
             clear c39
             obtain rfl := Option.some.inj H
             go_wp2_with (first | (go_at_call 17; (with_reducible refine (annuitantlaw36_change.calls t594 a3 2 0 t598 _ A31.out).mono ?_); rintro e w40 ⟨rfl, hb⟩; have n0_ := Aside0.mk (blk_below (g := gb591) (o := .cells #[.int .i64 a0_0, .int .i64 a0_1, .slice A0_2 l0_2.length c0_2] 27 (0, 0)) (by (with_reducible repeat (first | refine blk_drewN ?_ _ | refine blk_drew ?_ | refine blk_alloc ?_ _)); exact BK591.out) hb); have n1_ := Aside0.mk (blk_below (g := gb592) (o := .cells #[.int .i64 a1_0, .int .i64 a1_1, .slice A1_2 l1_2.length c1_2] 30 (0, 0)) (by (with_reducible repeat (first | refine blk_drewN ?_ _ | refine blk_drew ?_ | refine blk_alloc ?_ _)); exact BK592.out) hb); have n2_ := Aside0.mk (below_step (by repeat (first | (with_reducible first | exact HB.out | apply below_alloc | apply pw_below_drewN | apply below_drew1 | refine below_set ?_ GE591.out | refine below_set ?_ GE592.out) | exact HB.out)) hb); clear BK591; clear BK592; clear HB; have BK591 := n0_; have BK592 := n1_; have HB := n2_; clear n0_ n1_ n2_; (try clear hb); (try clear hb2); (try clear hk); (try clear hi)) | (go_at_call 21; (with_reducible refine (annuitantlaw36_accepted.calls kj19 t598 false _ ?side1 A32.out).mono ?_); (case side1 => exact GG.below HG.out (by repeat (first | (with_reducible first | exact HB.out | apply below_alloc | apply pw_below_drewN | apply below_drew1 | refine below_set ?_ GE591.out | refine below_set ?_ GE592.out) | exact HB.out))); rintro e w41 ⟨rfl, hb⟩; have n0_ := Aside0.mk (blk_below (g := gb591) (o := .cells #[.int .i64 a0_0, .int .i64 a0_1, .slice A0_2 l0_2.length c0_2] 27 (0, 0)) (by (with_reducible repeat (first | refine blk_drewN ?_ _ | refine blk_drew ?_ | refine blk_alloc ?_ _)); exact BK591.out) hb); have n1_ := Aside0.mk (blk_below (g := gb592) (o := .cells #[.int .i64 a1_0, .int .i64 a1_1, .slice A1_2 l1_2.length c1_2] 30 (0, 0)) (by (with_reducible repeat (first | refine blk_drewN ?_ _ | refine blk_drew ?_ | refine blk_alloc ?_ _)); exact BK592.out) hb); have n2_ := Aside0.mk (below_step (by repeat (first | (with_reducible first | exact HB.out | apply below_alloc | apply pw_below_drewN | apply below_drew1 | refine below_set ?_ GE591.out | refine below_set ?_ GE592.out) | exact HB.out)) hb); clear BK591; clear BK592; clear HB; have BK591 := n0_; have BK592 := n1_; have HB := n2_; clear n0_ n1_ n2_; (try clear hb); (try clear hb2); (try clear hk); (try clear hi); have p38 : 0 ≤ (a3 : Int) := of_decide_eq_true (by first | (with_reducible assumption) | assumption); have q38 : a3 < (t594.size : Int) := of_decide_eq_true (by first | (with_reducible assumption) | assumption); have hx38 := bt_at t594 a3; replace p38 := eq_true p38; replace q38 := eq_true q38))
             go_ret
             exact ⟨by first | rfl | (simp [errW_none, errW_some] <;> rfl) | (simp [*, errW_none, errW_some] <;> rfl), by repeat (first | (with_reducible first | exact HB.out | apply below_alloc | apply pw_below_drewN | apply below_drew1 | refine below_set ?_ GE591.out | refine below_set ?_ GE592.out) | exact HB.out)⟩
            ·
             rw [if_neg c39] at H
             have c39b0 : ((bt t594 a3) == a4) = false := beq_eq_false_iff_ne.mpr c39
             have c39b1 : ((bt t594 a3) != a4) = true := bne_iff_ne.mpr c39
             replace H := Option.bind_eq_some_iff.mp H
             obtain ⟨t600, A420, H⟩ := H
             replace H : ((annuitantlaw36_accepted.f kj19 t600).bind fun t601 => (some (!t601))) = some r := H
             have A42 := Aside0.mk A420
             clear A420
             replace H := Option.bind_eq_some_iff.mp H
             obtain ⟨t601, A430, H⟩ := H
             replace H : (some (!t601)) = some r := H
             have A43 := Aside0.mk A430
             clear A430
             obtain rfl := Option.some.inj H
             go_wp2_with (first | (go_at_call 17; (with_reducible refine (annuitantlaw36_change.calls t594 a3 2 0 t598 _ A31.out).mono ?_); rintro e w44 ⟨rfl, hb⟩; have n0_ := Aside0.mk (blk_below (g := gb591) (o := .cells #[.int .i64 a0_0, .int .i64 a0_1, .slice A0_2 l0_2.length c0_2] 27 (0, 0)) (by (with_reducible repeat (first | refine blk_drewN ?_ _ | refine blk_drew ?_ | refine blk_alloc ?_ _)); exact BK591.out) hb); have n1_ := Aside0.mk (blk_below (g := gb592) (o := .cells #[.int .i64 a1_0, .int .i64 a1_1, .slice A1_2 l1_2.length c1_2] 30 (0, 0)) (by (with_reducible repeat (first | refine blk_drewN ?_ _ | refine blk_drew ?_ | refine blk_alloc ?_ _)); exact BK592.out) hb); have n2_ := Aside0.mk (below_step (by repeat (first | (with_reducible first | exact HB.out | apply below_alloc | apply pw_below_drewN | apply below_drew1 | refine below_set ?_ GE591.out | refine below_set ?_ GE592.out) | exact HB.out)) hb); clear BK591; clear BK592; clear HB; have BK591 := n0_; have BK592 := n1_; have HB := n2_; clear n0_ n1_ n2_; (try clear hb); (try clear hb2); (try clear hk); (try clear hi)) | (go_at_call 21; (with_reducible refine (annuitantlaw36_accepted.calls kj19 t598 false _ ?side1 A32.out).mono ?_); (case side1 => exact GG.below HG.out (by repeat (first | (with_reducible first | exact HB.out | apply below_alloc | apply pw_below_drewN | apply below_drew1 | refine below_set ?_ GE591.out | refine below_set ?_ GE592.out) | exact HB.out))); rintro e w45 ⟨rfl, hb⟩; have n0_ := Aside0.mk (blk_below (g := gb591) (o := .cells #[.int .i64 a0_0, .int .i64 a0_1, .slice A0_2 l0_2.length c0_2] 27 (0, 0)) (by (with_reducible repeat (first | refine blk_drewN ?_ _ | refine blk_drew ?_ | refine blk_alloc ?_ _)); exact BK591.out) hb); have n1_ := Aside0.mk (blk_below (g := gb592) (o := .cells #[.int .i64 a1_0, .int .i64 a1_1, .slice A1_2 l1_2.length c1_2] 30 (0, 0)) (by (with_reducible repeat (first | refine blk_drewN ?_ _ | refine blk_drew ?_ | refine blk_alloc ?_ _)); exact BK592.out) hb); have n2_ := Aside0.mk (below_step (by repeat (first | (with_reducible first | exact HB.out | apply below_alloc | apply pw_below_drewN | apply below_drew1 | refine below_set ?_ GE591.out | refine below_set ?_ GE592.out) | exact HB.out)) hb); clear BK591; clear BK592; clear HB; have BK591 := n0_; have BK592 := n1_; have HB := n2_; clear n0_ n1_ n2_; (try clear hb); (try clear hb2); (try clear hk); (try clear hi); have p38 : 0 ≤ (a3 : Int) := of_decide_eq_true (by first | (with_reducible assumption) | assumption); have q38 : a3 < (t594.size : Int) := of_decide_eq_true (by first | (with_reducible assumption) | assumption); have hx38 := bt_at t594 a3; replace p38 := eq_true p38; replace q38 := eq_true q38) | (go_at_call 17; (with_reducible refine (annuitantlaw36_change.calls t594 a3 0 a4 t600 _ A42.out).mono ?_); rintro e w46 ⟨rfl, hb⟩; have n0_ := Aside0.mk (blk_below (g := gb591) (o := .cells #[.int .i64 a0_0, .int .i64 a0_1, .slice A0_2 l0_2.length c0_2] 27 (0, 0)) (by (with_reducible repeat (first | refine blk_drewN ?_ _ | refine blk_drew ?_ | refine blk_alloc ?_ _)); exact BK591.out) hb); have n1_ := Aside0.mk (blk_below (g := gb592) (o := .cells #[.int .i64 a1_0, .int .i64 a1_1, .slice A1_2 l1_2.length c1_2] 30 (0, 0)) (by (with_reducible repeat (first | refine blk_drewN ?_ _ | refine blk_drew ?_ | refine blk_alloc ?_ _)); exact BK592.out) hb); have n2_ := Aside0.mk (below_step (by repeat (first | (with_reducible first | exact HB.out | apply below_alloc | apply pw_below_drewN | apply below_drew1 | refine below_set ?_ GE591.out | refine below_set ?_ GE592.out) | exact HB.out)) hb); clear BK591; clear BK592; clear HB; have BK591 := n0_; have BK592 := n1_; have HB := n2_; clear n0_ n1_ n2_; (try clear hb); (try clear hb2); (try clear hk); (try clear hi)) | (go_at_call 21; (with_reducible refine (annuitantlaw36_accepted.calls kj19 t600 t601 _ ?side1 A43.out).mono ?_); (case side1 => exact GG.below HG.out (by repeat (first | (with_reducible first | exact HB.out | apply below_alloc | apply pw_below_drewN | apply below_drew1 | refine below_set ?_ GE591.out | refine below_set ?_ GE592.out) | exact HB.out))); rintro e w47 ⟨rfl, hb⟩; have n0_ := Aside0.mk (blk_below (g := gb591) (o := .cells #[.int .i64 a0_0, .int .i64 a0_1, .slice A0_2 l0_2.length c0_2] 27 (0, 0)) (by (with_reducible repeat (first | refine blk_drewN ?_ _ | refine blk_drew ?_ | refine blk_alloc ?_ _)); exact BK591.out) hb); have n1_ := Aside0.mk (blk_below (g := gb592) (o := .cells #[.int .i64 a1_0, .int .i64 a1_1, .slice A1_2 l1_2.length c1_2] 30 (0, 0)) (by (with_reducible repeat (first | refine blk_drewN ?_ _ | refine blk_drew ?_ | refine blk_alloc ?_ _)); exact BK592.out) hb); have n2_ := Aside0.mk (below_step (by repeat (first | (with_reducible first | exact HB.out | apply below_alloc | apply pw_below_drewN | apply below_drew1 | refine below_set ?_ GE591.out | refine below_set ?_ GE592.out) | exact HB.out)) hb); clear BK591; clear BK592; clear HB; have BK591 := n0_; have BK592 := n1_; have HB := n2_; clear n0_ n1_ n2_; (try clear hb); (try clear hb2); (try clear hk); (try clear hi)))
             go_ret
             exact ⟨by first | rfl | (simp [errW_none, errW_some] <;> rfl) | (simp [*, errW_none, errW_some] <;> rfl), by repeat (first | (with_reducible first | exact HB.out | apply below_alloc | apply pw_below_drewN | apply below_drew1 | refine below_set ?_ GE591.out | refine below_set ?_ GE592.out) | exact HB.out)⟩
           ·
            rw [if_neg c37] at H
            exact absurd H (by simp)
          ·
           rw [if_neg c36] at H
           exact absurd H (by simp)
 ·
  replace c7 := Bool.eq_false_iff.mpr c7
  subst c7
  have H1 : (some false) = some r := by rw [if_neg (show ¬ (false = true) by decide)] at H; exact H
  clear H
  have H := H1
  clear H1
  obtain rfl := Option.some.inj H
  go_enter Tryz.func5, Tryz.ntmps5
  go_wp2_with (first | ((with_reducible refine gate_dst (N := 5) rfl ?_); (try (refine gate_guard (by rfl) ?_; dsimp only)); refine box_event ?hg (N := 5) ?hd (cs := #[.int .i64 a0_0, .int .i64 a0_1, .slice A0_2 l0_2.length c0_2]) (t := 27) ?hr ?_; (case hd => rfl); (case hg => rfl); (case hr => first | (go_simp; done) | (go_simp; rfl)); intro gb591 hg w48 hbox hb; have n0_ := Aside0.mk (below_step (by repeat (first | (with_reducible first | exact HB.out | apply below_alloc | apply pw_below_drewN | apply below_drew1) | exact HB.out)) hb); have n1_ := Aside0.mk (hbox); have n2_ := Aside0.mk ((by rw [hg]; exact (below_size (by repeat (first | (with_reducible first | exact HB.out | apply below_alloc | apply pw_below_drewN | apply below_drew1) | exact HB.out))) : w.heap.size ≤ gb591)); have n3_ := Aside0.mk ((by rw [hg]; exact (below_size (by repeat (first | (with_reducible first | exact HB.out | apply below_alloc | apply pw_below_drewN | apply below_drew1) | exact HB.out))) : w.heap.size ≤ gb591)); clear HB; have HB := n0_; have BK591 := n1_; have GW591 := n2_; have GE591 := n3_; clear n0_ n1_ n2_ n3_; clear hb hbox hg) | ((with_reducible refine gate_dst (N := 6) rfl ?_); (try (refine gate_guard (by rfl) ?_; dsimp only)); refine box_event ?hg (N := 6) ?hd (cs := #[.int .i64 a1_0, .int .i64 a1_1, .slice A1_2 l1_2.length c1_2]) (t := 30) ?hr ?_; (case hd => rfl); (case hg => rfl); (case hr => first | (go_simp; done) | (go_simp; rfl)); intro gb592 hg w49 hbox hb; have n0_ := Aside0.mk (blk_below (g := gb591) (o := .cells #[.int .i64 a0_0, .int .i64 a0_1, .slice A0_2 l0_2.length c0_2] 27 (0, 0)) (by (with_reducible repeat (first | refine blk_drewN ?_ _ | refine blk_drew ?_ | refine blk_alloc ?_ _)); exact BK591.out) hb); have n1_ := Aside0.mk (below_step (by repeat (first | (with_reducible first | exact HB.out | apply below_alloc | apply pw_below_drewN | apply below_drew1 | refine below_set ?_ GE591.out) | exact HB.out)) hb); have n2_ := Aside0.mk (hbox); have n3_ := Aside0.mk ((by rw [hg]; exact (below_size (by repeat (first | (with_reducible first | exact HB.out | apply below_alloc | apply pw_below_drewN | apply below_drew1 | refine below_set ?_ GE591.out) | exact HB.out))) : w.heap.size ≤ gb592)); have n4_ := Aside0.mk ((by rw [hg]; exact (below_size (by repeat (first | (with_reducible first | exact HB.out | apply below_alloc | apply pw_below_drewN | apply below_drew1 | refine below_set ?_ GE591.out) | exact HB.out))) : w.heap.size ≤ gb592)); have n5_ := Aside0.mk ((by rw [hg]; exact Nat.ne_of_lt (blk_lt (g := gb591) (o := .cells #[.int .i64 a0_0, .int .i64 a0_1, .slice A0_2 l0_2.length c0_2] 27 (0, 0)) (by (with_reducible repeat (first | refine blk_drewN ?_ _ | refine blk_drew ?_ | refine blk_alloc ?_ _)); exact BK591.out)) : gb591 ≠ gb592)); have n6_ := Aside0.mk ((by rw [hg]; exact Nat.ne_of_gt (blk_lt (g := gb591) (o := .cells #[.int .i64 a0_0, .int .i64 a0_1, .slice A0_2 l0_2.length c0_2] 27 (0, 0)) (by (with_reducible repeat (first | refine blk_drewN ?_ _ | refine blk_drew ?_ | refine blk_alloc ?_ _)); exact BK591.out)) : gb592 ≠ gb591)); clear BK591; clear HB; have BK591 := n0_; have HB := n1_; have BK592 := n2_; have GW592 := n3_; have GE592 := n4_; have NB591_592 := n5_; have NB592_591 := n6_; clear n0_ n1_ n2_ n3_ n4_ n5_ n6_; clear hb hbox hg) | ((with_reducible refine gate_callee (f := 9) rfl ?_); refine goesL_ (some 12) rfl rfl Tryz.func9 (by kernel_rfl) rfl #[] rfl (by (try simp only [List.map_toArray, List.map_cons, List.map_nil]); first | done | rfl | (simp only [List.length_drop, List.length_take]; rfl)) ?_; (with_reducible refine (annuitantlaw36_awake.calls k  false _ ?side1 A6.out).mono ?_); (case side1 => exact GG.below HG.out (by repeat (first | (with_reducible first | exact HB.out | apply below_alloc | apply pw_below_drewN | apply below_drew1 | refine below_set ?_ GE591.out | refine below_set ?_ GE592.out) | exact HB.out))); rintro e w50 ⟨rfl, hb⟩; refine ⟨_, rfl, ?_⟩; have n0_ := Aside0.mk (blk_below (g := gb591) (o := .cells #[.int .i64 a0_0, .int .i64 a0_1, .slice A0_2 l0_2.length c0_2] 27 (0, 0)) (by (with_reducible repeat (first | refine blk_drewN ?_ _ | refine blk_drew ?_ | refine blk_alloc ?_ _)); exact BK591.out) hb); have n1_ := Aside0.mk (blk_below (g := gb592) (o := .cells #[.int .i64 a1_0, .int .i64 a1_1, .slice A1_2 l1_2.length c1_2] 30 (0, 0)) (by (with_reducible repeat (first | refine blk_drewN ?_ _ | refine blk_drew ?_ | refine blk_alloc ?_ _)); exact BK592.out) hb); have n2_ := Aside0.mk (below_step (by repeat (first | (with_reducible first | exact HB.out | apply below_alloc | apply pw_below_drewN | apply below_drew1 | refine below_set ?_ GE591.out | refine below_set ?_ GE592.out) | exact HB.out)) hb); clear BK591; clear BK592; clear HB; have BK591 := n0_; have BK592 := n1_; have HB := n2_; clear n0_ n1_ n2_; (try clear hb); (try clear hb2); (try clear hk); (try clear hi)))
  go_ret
  exact ⟨by first | rfl | (simp [errW_none, errW_some] <;> rfl) | (simp [*, errW_none, errW_some] <;> rfl), by repeat (first | (with_reducible first | exact HB.out | apply below_alloc | apply pw_below_drewN | apply below_drew1 | refine below_set ?_ GE591.out | refine below_set ?_ GE592.out) | exact HB.out)⟩
end Go.Proofs.YtndojpcjhkncgaaGreatDoor.Q
end

section
namespace Go.Proofs.YtndojpcjhkncgaaGreatDoor.Q
open Go Go.RowKit Go.Proofs.YtndojpcjhkncgaaGreatDoorW.PrintWords
set_option linter.unusedVariables false
set_option linter.unusedSimpArgs false
theorem changed_ev (n1 d1 : Int) (L : List S47) (n2 d2 : Int) (R : List S49) (b : Bool) (i c : Int) (hc0 : 0 ≤ c) (hc1 : c < 256) (hL : (L.length : Int) ≤ 4611686018427387904) (hR : (R.length : Int) ≤ 4611686018427387904) :
    Ev (fun k => annuitantlaw36_BankChanged.f k n1 d1 L n2 d2 R b i c) true := by
  unfold annuitantlaw36_BankChanged.f
  refine Ev.bind awake_ev (Ev.pos rfl (Ev.bind (text_ev n1 d1 L n2 d2 R b hL hR) ?_))
  have hacc := textS_acc n1 d1 L n2 d2 R b
  generalize textS n1 d1 L n2 d2 R b = s at hacc ⊢
  have hT : Ev (fun k => annuitantlaw36_BankChanged.j0 k i c (B s) true) true := Ev.step (fun k => by rw [annuitantlaw36_BankChanged.j0]) (Ev.pos rfl (Ev.now true))
  by_cases h0 : (B s).toList = ([] : List UInt8)
  · exact Ev.pos h0 hT
  refine Ev.neg h0 ?_
  obtain ⟨hs, hl⟩ : accB s = true ∧ s.length ≤ 1048576 := by
    rcases hacc with e | e
    · rw [B_list] at h0
      exact absurd e h0
    · exact e
  by_cases h1 : i < 0
  · exact Ev.pos h1 hT
  refine Ev.neg h1 ?_
  by_cases h2 : i > ((B s).size : Int)
  · rw [decide_eq_true h2]
    exact hT
  rw [decide_eq_false h2]
  rw [B_size] at h2
  obtain ⟨j, rfl⟩ : ∃ j : Nat, i = (j : Int) := ⟨i.toNat, by omega⟩
  have hj : j ≤ s.length := by omega
  have hins : (s.take j ++ UInt8.ofNat c.toNat :: s.drop j).length ≤ 4611686018427387904 := by rw [List.length_append, List.length_cons, List.length_take, List.length_drop]; omega
  have hrem : (s.take j ++ s.drop (j + 1)).length ≤ 4611686018427387904 := by rw [List.length_append, List.length_take, List.length_drop]; omega
  have hrep : (s.take j ++ UInt8.ofNat c.toNat :: s.drop (j + 1)).length ≤ 4611686018427387904 := by rw [List.length_append, List.length_cons, List.length_take, List.length_drop]; omega
  refine Ev.step (fun k => by rw [annuitantlaw36_BankChanged.j0]) (Ev.neg (by simp) (Ev.bind (accepted_ev s (by omega)) (Ev.pos hs ?_)))
  refine Ev.const (insert_ev s (by omega) j hj c) (Ev.bind (accepted_ev _ hins) ?_)
  rw [acc_insert s hs j _ hj]
  refine Ev.step (fun k => by rw [annuitantlaw36_BankChanged.j1]) (Ev.neg (by simp) ?_)
  by_cases h3 : (j : Int) = ((B s).size : Int)
  · exact Ev.pos h3 (Ev.now true)
  rw [B_size] at h3
  have hlt : j < s.length := by omega
  refine Ev.neg (by rw [B_size]; exact h3) (Ev.const (remove_ev s (by omega) j hlt 0) (Ev.bind (accepted_ev _ hrem) ?_))
  rw [acc_remove s hs j hlt]
  refine Ev.neg (by simp) (Ev.pos (by omega) (Ev.pos (by rw [B_size]; omega) ?_))
  by_cases h4 : bt (B s) (j : Int) = c
  · exact Ev.pos h4 (Ev.now true)
  refine Ev.neg h4 (Ev.const (replace_ev s (by omega) j hlt c) (Ev.bind (accepted_ev _ hrep) (Ev.ret ?_)))
  rw [acc_replace s hs j _ hlt (fun e => h4 (by
    rw [B_bt s j hlt, e]
    have := UInt8.toNat_ofNat' (n := c.toNat)
    omega))]
  rfl
end Go.Proofs.YtndojpcjhkncgaaGreatDoor.Q
end

section
namespace Go.Proofs.YtndojpcjhkncgaaGreatDoor.Q
open Go Go.RowKit Go.Deep Go.Proofs.YtndojpcjhkncgaaGreatDoorW.PrintWords Go.Proofs.YtndojpcjhkncgaaGreatDoorW.PrintLast
set_option linter.unusedVariables false
set_option linter.unusedSimpArgs false
def Opens (P : Program) (t : TypeId) {α : Type} (d : Kd α) (S : α → Prop) : Prop :=
  ∀ {H : Type} {enc : TypeId × Value → H} {W : World} {fuel : Nat} {cs : List Value} {x : DataW H × List MemPlace},
    DataW.trod enc P W 0 (fun _ => true) true fuel t cs = some x → (x.1.weights P t).all (· ≤ reachBytes) = true → ∃ a, d.K W a cs ∧ S a
variable {P : Program} {t : TypeId}
theorem opens_int {k : IntKind} (ht : P.underlying t = some (.int k)) : Opens P t (Kd.int k) (fun n => (Lit.int k n).wf = true) := by
  intro H enc W fuel cs x h hs
  obtain ⟨n, rfl, _, hw⟩ := DataW.trod_int ht h
  exact ⟨n, rfl, hw⟩
theorem opens_imp {α : Type} {d : Kd α} {S S' : α → Prop} (h : Opens P t d S) (hS : ∀ a, S a → S' a) : Opens P t d S' := by
  intro H enc W fuel cs x hx hs
  obtain ⟨a, h1, h2⟩ := h hx hs
  exact ⟨a, h1, hS a h2⟩
theorem opens_iso {α β : Type} {d : Kd α} {S : α → Prop} (f : β → α) (g : α → β) (hfg : ∀ a, f (g a) = a) (h : Opens P t d S) : Opens P t (Kd.iso d f) (fun b => S (f b)) := by
  intro H enc W fuel cs x hx hs
  obtain ⟨a, h1, h2⟩ := h hx hs
  exact ⟨g a, by show d.K W (f (g a)) cs; rw [hfg]; exact h1, by show S (f (g a)); rw [hfg]; exact h2⟩
theorem weightsAll_mem {H : Type} {e : TypeId} : ∀ {ds : List (DataW H)} {d : DataW H}, d ∈ ds → (DataW.weightsAll P e ds).all (· ≤ reachBytes) = true → (d.weights P e).all (· ≤ reachBytes) = true
  | x :: ds, d, hd, h => by
    rw [DataW.weightsAll, List.all_append, Bool.and_eq_true] at h
    rcases List.mem_cons.mp hd with rfl | hd
    · exact h.1
    · exact weightsAll_mem hd h.2
theorem choose_list {α : Type} {p : Nat → α → Prop} : ∀ (n : Nat), (∀ i, i < n → ∃ v, p i v) → ∃ l : List α, l.length = n ∧ ∀ i v, l[i]? = some v → p i v
  | 0, _ => ⟨[], rfl, fun i v h => by simp at h⟩
  | n + 1, h => by
    obtain ⟨l, hl, hp⟩ := choose_list n (fun i hi => h i (by omega))
    obtain ⟨v, hv⟩ := h n (by omega)
    refine ⟨l ++ [v], by simp [hl], fun i u hu => ?_⟩
    by_cases hi : i < n
    · rw [List.getElem?_append_left (by omega)] at hu
      exact hp i u hu
    · have : i < (l ++ [v]).length := (List.getElem?_eq_some_iff.1 hu).1
      simp [hl] at this
      obtain rfl : i = n := by omega
      rw [← hl, List.getElem?_append_right (Nat.le_refl _)] at hu
      simp at hu
      subst hu
      exact hv
theorem opens_slice {α : Type} {d : Kd α} {S : α → Prop} {e q b : Nat} (ht : P.underlying t = some (.slice e)) (hc : P.cellsOf e = d.sz) (hb : P.bytesOf e = b) (h : Opens P e d S) : Opens P t (Kd.slice q d) (fun l => l.length * b ≤ reachBytes ∧ ∀ a ∈ l, S a) := by
  intro H enc W fuel cs x hx hs
  rcases open_slice ht hx with ⟨rfl, rfl⟩ | ⟨a, len, cap, m, n, D, Pl, rfl, _, hl, hm, hmm, rfl, hel⟩
  · exact ⟨[], ⟨none, 0, rfl, Nat.le_refl _, rfl, by show (0 : Nat) ≤ _; omega, fun h => absurd h (Nat.lt_irrefl 0)⟩, by simp⟩
  · simp only [DataW.weights, ht, List.all_cons, List.all_append, Bool.and_eq_true, decide_eq_true_eq, List.length_map, List.length_range] at hs
    obtain ⟨hw, hw1, _⟩ := hs
    rw [if_pos rfl] at hmm
    subst hmm
    obtain ⟨l, hll, hp⟩ := choose_list (α := α) (p := fun i v => S v ∧ ∃ cs', cs'.length = d.sz ∧ d.K W v cs' ∧ ∀ j u, cs'[j]? = some u → W.cell? (a.add (i * d.sz + j)) = some u) len (fun i hi => by
      obtain ⟨cs', h1, h2⟩ := hel i (by omega)
      obtain ⟨v, hv, hS⟩ := h h2 (weightsAll_mem (d := D i) (List.mem_map_of_mem (List.mem_range.2 hi)) hw1)
      obtain ⟨_, hlen, hcell⟩ := World.cells?_some h1
      refine ⟨v, hS, cs', hlen.trans hc, hv, fun j u hj => ?_⟩
      have hjl : j < cs'.length := (List.getElem?_eq_some_iff.1 hj).1
      have := hcell j (by omega)
      rw [hj, hc] at this
      rw [← this, Deep.add_add])
    refine ⟨l, ⟨some a, m, by rw [hll], by rw [hll]; exact hl, rfl, ?_, fun _ => ⟨a, rfl, fun j p hj => ?_⟩⟩, ?_, ?_⟩
    · unfold maxLen at hm; omega
    · obtain ⟨_, cs', h1, h2, h3⟩ := hp j p hj
      exact ⟨cs', h1, h2, h3⟩
    · rw [hb] at hw
      rw [hll]
      exact Nat.le_trans (Nat.mul_le_mul_right _ (by omega)) hw
    · intro v hv
      obtain ⟨i, hi⟩ := List.getElem?_of_mem hv
      exact (hp i v hi).1
def OpensF (P : Program) : List Field → Nat → {α : Type} → Kd α → (α → Prop) → Prop := fun fs o α d S =>
  ∀ {H : Type} {enc : TypeId × Value → H} {W : World} {n : Nat} {cs : List Value} {xs : List (DataW H × List MemPlace)}, xs.length = fs.length → cs.length = o + d.sz →
    (∀ (i : Nat) (f : Field), fs[i]? = some f → DataW.trod enc P W 0 (fun _ => true) true n f.type ((cs.drop f.offset).take (P.cellsOf f.type)) = xs[i]?) →
    (DataW.weightsEach P (fs.map (·.type)) (xs.map (·.1))).all (· ≤ reachBytes) = true → ∃ a, d.K W a (cs.drop o) ∧ S a
theorem opensF_one {α : Type} {d : Kd α} {S : α → Prop} {f : Field} {o : Nat} (h : Opens P f.type d S) (hc : P.cellsOf f.type = d.sz) (ho : f.offset = o) : OpensF P [f] o d S := by
  intro H enc W n cs xs hx hl hf hs
  match xs, hx with
  | [x], _ =>
    have h1 := hf 0 f rfl
    rw [ho, hc, List.take_of_length_le (by simp; omega)] at h1
    simp only [List.map_cons, List.map_nil, DataW.weightsEach, List.append_nil] at hs
    exact h h1 hs
theorem opensF_cons {α β : Type} {d : Kd α} {S : α → Prop} {d' : Kd β} {S' : β → Prop} {f : Field} {fs : List Field} {o : Nat} (h : Opens P f.type d S) (hc : P.cellsOf f.type = d.sz) (ho : f.offset = o) (ht : OpensF P fs (o + d.sz) d' S') :
    OpensF P (f :: fs) o (Kd.pair d d') (fun x => S x.1 ∧ S' x.2) := by
  intro H enc W n cs xs hx hl hf hs
  match xs, hx with
  | x :: xs, hx =>
    have h1 := hf 0 f rfl
    rw [ho, hc] at h1
    simp only [List.map_cons, DataW.weightsEach, List.all_append, Bool.and_eq_true] at hs
    obtain ⟨a, ha, hS⟩ := h h1 hs.1
    have hsz : (Kd.pair d d').sz = d.sz + d'.sz := rfl
    rw [hsz] at hl
    obtain ⟨a', ha', hS'⟩ := ht (xs := xs) (cs := cs) (by simpa using hx) (by omega) (fun i g hg => by simpa using hf (i + 1) g (by simpa using hg)) hs.2
    refine ⟨(a, a'), ⟨(cs.drop o).take d.sz, cs.drop (o + d.sz), ?_, ha, ha'⟩, hS, hS'⟩
    rw [← List.drop_drop, List.take_append_drop]
theorem opens_struct {α : Type} {d : Kd α} {S : α → Prop} {fs : Array Field} (ht : P.underlying t = some (.struct fs)) (hc : P.cellsOf t = d.sz) (h : OpensF P fs.toList 0 d S) : Opens P t d S := by
  intro H enc W fuel cs x hx hs
  obtain ⟨xs, n, _, rfl, hl, hlen, hf⟩ := DataW.trod_struct ht hx
  simp only [DataW.weights, ht] at hs
  have := h (W := W) (n := n) (cs := cs) (xs := xs) (enc := enc) (by simpa using hlen) (by omega) (fun i f hi => hf i f (by simpa using hi)) (by simpa using hs)
  simpa using this
theorem open_arg {H : Type} {enc : TypeId × Value → H} {W : World} {α : Type} {d : Kd α} {S : α → Prop} {v : Value} {x : DataW H} {p : List MemPlace} (h : Opens P t d S) (hx : DataW.Trod enc P W 0 (fun _ => true) true t v x p) (hs : (x.weights P t).all (· ≤ reachBytes) = true) :
    ∃ a, d.K W a v.cells.toList ∧ S a := by
  obtain ⟨fuel, hf⟩ := hx
  exact h hf hs
theorem arg_struct {W : World} {r : Reach} {b : Nat} {v : Value} {fs : Array Field} {cs : List Value} (ht : P.underlying t = some (.struct fs)) (hv : Value.okWide P W r b t v) (h : v.cells.toList = cs) : v = .agg cs.toArray := by
  obtain ⟨c, rfl, _⟩ := WideShapes.okWide_struct ht hv
  rw [← h]
  simp [Value.cells]
theorem arg_lt {H : Type} {enc : TypeId × Value → H} {W : World} {v : Value} {x : DataW H} {p : List MemPlace} (hx : DataW.Trod enc P W 0 (fun _ => true) true t v x p) : ∀ y ∈ p, y.block < W.heap.size := by
  obtain ⟨m, hm⟩ := hx
  exact DataW.trod_lt m _ _ _ hm
theorem weights_at {H : Type} {ts : List TypeId} {ds : List (DataW H)} {j : Nat} {d : DataW H} (h : (DataW.weightsEach P ts ds).all (· ≤ reachBytes) = true) (ht : ts[j]? = some t) (hd : ds[j]? = some d) : (d.weights P t).all (· ≤ reachBytes) = true := by
  rw [List.all_eq_true] at h ⊢
  intro n hn
  exact h n (DataW.weights_mem_each ht hd n hn)
end Go.Proofs.YtndojpcjhkncgaaGreatDoor.Q
end

section
namespace Go.Proofs.YtndojpcjhkncgaaGreatDoor.Q
open Go.ChangeShapes Go.WideShapes Go.ChangeAt Go.RowKit Go.Proofs.YtndojpcjhkncgaaGreatDoorW.PrintWords
set_option linter.unusedVariables false
set_option linter.unusedSimpArgs false
theorem opens_order : Opens Tryz.prog 47 k47 (fun _ => True) :=
  opens_imp (opens_iso (d := Kd.pair (Kd.int .i64) (Kd.pair (Kd.int .i64) (Kd.pair (Kd.int .i64) (Kd.pair (Kd.int .i64) (Kd.int .i64))))) (fun x : S47 => (x.f0, x.f1, x.f2, x.f3, x.f4)) (fun y => ⟨y.1, y.2.1, y.2.2.1, y.2.2.2.1, y.2.2.2.2⟩) (fun _ => rfl)
    (opens_struct Tryz.underlying47 (by kernel_rfl) (opensF_cons (opens_int Tryz.underlying3) (by kernel_rfl) rfl (opensF_cons (opens_int Tryz.underlying3) (by kernel_rfl) rfl (opensF_cons (opens_int Tryz.underlying3) (by kernel_rfl) rfl (opensF_cons (opens_int Tryz.underlying3) (by kernel_rfl) rfl (opensF_one (opens_int Tryz.underlying3) (by kernel_rfl) rfl))))))) (fun _ _ => trivial)
theorem opens_return : Opens Tryz.prog 49 k49 (fun _ => True) :=
  opens_imp (opens_iso (d := Kd.pair (Kd.int .i64) (Kd.int .i64)) (fun x : S49 => (x.f0, x.f1)) (fun y => ⟨y.1, y.2⟩) (fun _ => rfl)
    (opens_struct Tryz.underlying49 (by kernel_rfl) (opensF_cons (opens_int Tryz.underlying3) (by kernel_rfl) rfl (opensF_one (opens_int Tryz.underlying3) (by kernel_rfl) rfl)))) (fun _ _ => trivial)
theorem opens_file : Opens Tryz.prog 27 (Kd.pair (Kd.int .i64) (Kd.pair (Kd.int .i64) (Kd.slice 47 k47))) (fun x => x.2.2.length * 40 ≤ reachBytes) :=
  opens_imp (opens_struct Tryz.underlying27 (by kernel_rfl) (opensF_cons (opens_int Tryz.underlying3) (by kernel_rfl) rfl (opensF_cons (opens_int Tryz.underlying3) (by kernel_rfl) rfl (opensF_one (opens_slice (q := 47) (b := 40) Tryz.underlying25 (by kernel_rfl) (by kernel_rfl) opens_order) (by kernel_rfl) rfl)))) (fun x h => h.2.2.1)
theorem opens_answer : Opens Tryz.prog 30 (Kd.pair (Kd.int .i64) (Kd.pair (Kd.int .i64) (Kd.slice 49 k49))) (fun x => x.2.2.length * 16 ≤ reachBytes) :=
  opens_imp (opens_struct Tryz.underlying30 (by kernel_rfl) (opensF_cons (opens_int Tryz.underlying3) (by kernel_rfl) rfl (opensF_cons (opens_int Tryz.underlying3) (by kernel_rfl) rfl (opensF_one (opens_slice (q := 49) (b := 16) Tryz.underlying28 (by kernel_rfl) (by kernel_rfl) opens_return) (by kernel_rfl) rfl)))) (fun x h => h.2.2.1)
end Go.Proofs.YtndojpcjhkncgaaGreatDoor.Q
end

section
namespace Go.Proofs.YtndojpcjhkncgaaGreatDoor.Q
open Go Go.RowKit
set_option linter.unusedVariables false
set_option linter.unusedSimpArgs false
def laidAll : List (String × DataW Unit) := [("math/bits.deBruijn32tab", Rows.laid_math_bits_deBruijn32tab), ("math/bits.deBruijn64tab", Rows.laid_math_bits_deBruijn64tab), ("internal/strconv.uint64pow10", Rows.laid_internal_strconv_uint64pow10), ("unicode/utf8.acceptRanges", Rows.laid_unicode_utf8_acceptRanges), ("strconv.ErrRange", Rows.laid_strconv_ErrRange), ("strconv.ErrSyntax", Rows.laid_strconv_ErrSyntax), ("unicode/utf8.first", Rows.laid_unicode_utf8_first)]
theorem laid_pow : Rows.laid_internal_strconv_uint64pow10 (H := Unit) = Lib.tabData .u64 Lib.pow10Tab := by kernel_rfl
theorem laid_low : Rows.laid_math_bits_deBruijn64tab (H := Unit) = Lib.tabData .u8 (Lib.deBruijn64tab.map fun (n : Nat) => (n : Int)) := by kernel_rfl
theorem row_err (u : TypeId) (h : Tryz.prog.typeName? 3 u = some "*errors.errorString") : u = 185 :=
  typeName_ptr_named (nm := "errors.errorString") (by kernel_rfl) (by kernel_rfl) (by decide) u h
theorem var_cell {w : World} {n : String} {g : Nat} {v : Value} (hg : Tryz.prog.globalNamed n = some g) (h : w.var? Tryz.prog n = some #[v]) : w.cell? ⟨g, 0, none⟩ = some v := by
  simpa using World.var?_cell hg h 0
theorem gg_of_laid {W : World} (h : laidMetH Tryz.prog laidAll W) (hs : W.ShapedOpen Tryz.prog) : GG W := by
  rw [MakeChecks.laidMetH_plain _ _ _ (by kernel_rfl)] at h
  have h1 := h.tail
  have h2 := h1.tail
  have h4 := h2.tail.tail
  have h5 := h4.tail
  rw [laid_low] at h1
  rw [laid_pow] at h2
  refine ⟨Lib.tabIs_of_head (P := Tryz.prog) (t := 163) (e := 127) (n := 20) named_pow (by kernel_rfl) (by kernel_rfl) (by kernel_rfl) (by kernel_rfl) (by kernel_rfl) h2, Lib.tabIs_of_head (P := Tryz.prog) (t := 189) (e := 5) (n := 64) named_low (by kernel_rfl) (by kernel_rfl) (by kernel_rfl) (by kernel_rfl) (by kernel_rfl) h1, ?_, ?_, ?_⟩
  · obtain ⟨a, s, hv, _⟩ := laid_sentinel h5 (show Tryz.prog.globalNamed "strconv.ErrSyntax" = some 2 by kernel_rfl) (show _ = some 102 by kernel_rfl) Tryz.underlying102 row_err Tryz.underlying185 Tryz.underlying187 rfl rfl Tryz.underlying9 (by kernel_rfl) (by kernel_rfl)
    exact ⟨_, var_cell (by kernel_rfl) hv, .inr ⟨_, _, rfl⟩⟩
  · obtain ⟨a, s, hv, _⟩ := laid_sentinel h4 (show Tryz.prog.globalNamed "strconv.ErrRange" = some 3 by kernel_rfl) (show _ = some 102 by kernel_rfl) Tryz.underlying102 row_err Tryz.underlying185 Tryz.underlying187 rfl rfl Tryz.underlying9 (by kernel_rfl) (by kernel_rfl)
    exact ⟨_, var_cell (by kernel_rfl) hv, .inr ⟨_, _, rfl⟩⟩
  · exact cell_of_shapedOpen_int (g := 1) (t := 3) (zero := #[.int .i64 0]) hs (of_decide_eq_true (by kernel_rfl)) (by kernel_rfl) rfl (by kernel_rfl) (by kernel_rfl) Tryz.underlying3
def firstCells : Array Value := (match Rows.laid_unicode_utf8_first with
  | .agg ds => ds.map fun (d : DataW Unit) => match d with
    | .lit (.int k n) => Value.int k n
    | _ => .nilIface
  | _ => []).toArray
noncomputable def doorZ (os : Os) : World :=
  { World.doorLaid Tryz.prog 72 os with heap := (World.doorLaid Tryz.prog 72 os).heap.modify 4 fun
      | .cells _ t fz => .cells firstCells t fz
      | o => o }
theorem door_met (os : Os) (args : Array Value) : laidMetH Tryz.prog laidAll ((doorZ os).forCall (fun _ _ => 0) ⟨#[], args, []⟩).memory :=
  laidMetH_of_parts3 (fuel := 8) (laidMet_of_run' 8 (by kernel_rfl) (by kernel_rfl)) (by kernel_rfl) (by kernel_rfl)
theorem own : ownKnob Tryz.prog.godebug = none := by kernel_rfl
theorem laidOut : laidOutB Tryz.prog = true := by kernel_rfl
end Go.Proofs.YtndojpcjhkncgaaGreatDoor.Q
end
