/- Part 5 of a proof: the texts QFlaw36BankOnly, SOnly, Open, OpenB, LaidZ, put together by a program of this repo. -/
import Derived.ProofKit
import Derived.SizedLaws
import Derived.Deep.Slices
import Derived.OpenShut
import Derived.Test.YtndojpcjhkncgaaGreatDoorRows
import Derived.Lib.LaidTab
import Derived.LaidMore
import Derived.LaidHandle
import Derived.MakeChecks
import Derived.Stop.LaidErr
import Derived.Shelf.Vars
import Derived.Test.YtndojpcjhkncgaaGreatDoorMOnly1
import Derived.Test.YtndojpcjhkncgaaGreatDoorMOnly3
import Derived.Test.YtndojpcjhkncgaaGreatDoorMOnly2
import Derived.Test.YtndojpcjhkncgaaGreatDoorMOnly4

section
namespace Go.Proofs.YtndojpcjhkncgaaGreatDoor.Q
open Go.RowKit Go.Proofs.YtndojpcjhkncgaaGreatDoorW.PrintWords Go.Proofs.YtndojpcjhkncgaaGreatDoorW.PrintLast Go.Proofs.YtndojpcjhkncgaaGreatDoorW.PrintMore
attribute [local go_sem] max2_int min2_int max_two min_two max_three min_three max_four min_four   -- for this text's walks alone
set_option linter.unusedVariables false
set_option linter.unusedSimpArgs false
def annuitantlaw36_BankOnly.j0 : Nat → ByteArray → Int → Int → Int → Int → List (S49) → Option (Bool)
 | 0, _, _, _, _, _, _ => none
 | k + 1, x0, x4, x6, x683000, x683001, x683002 => if x6 = 0 then ((bank_WriteAnswer.f k x683000 x683001 x683002).bind fun bt686 => (if bt686.2 = 0 then (if bt686.1.toList = x0.toList then ((bank_Right.f k x683000 x683001 x683002).bind fun t688 => (if t688 = true then (some (x4 != 0)) else (some false))) else (some false)) else (some false))) else (if x683000 = 0 then (if x683001 = 0 then (some ((x683002.length : Int) == 0)) else (some false)) else (some false))
def annuitantlaw36_BankOnly.f (k : Nat) (a0 : ByteArray) : Option (Bool) := (annuitantlaw36_awake.f k).bind fun t668 => (if t668 = true then (if (a0.size : Int) > 3000 then (some true) else ((bank_Read.f k a0).bind fun bt669 => ((bank_ReadAnswer.f k a0).bind fun bt676 => (if bt669.2.2.2 = 0 then ((bank_Write.f k bt669.1 bt669.2.1 bt669.2.2.1).bind fun bt683 => (if bt683.2 = 0 then (if bt683.1.toList = a0.toList then ((bank_Valid.f k bt669.1 bt669.2.1 bt669.2.2.1).bind fun t685 => (if t685 = true then (annuitantlaw36_BankOnly.j0 k a0 bt669.2.2.2 bt676.2.2.2 bt676.1 bt676.2.1 bt676.2.2.1) else (some false))) else (some false)) else (some false))) else (if bt669.1 = 0 then (if bt669.2.1 = 0 then (if (bt669.2.2.1.length : Int) > 0 then (some false) else (annuitantlaw36_BankOnly.j0 k a0 bt669.2.2.2 bt676.2.2.2 bt676.1 bt676.2.1 bt676.2.2.1)) else (some false)) else (some false)))))) else (some false))
set_option maxHeartbeats 8000000 in
set_option maxRecDepth 100000 in
theorem annuitantlaw36_BankOnly.calls (k : Nat) (a0 : ByteArray) (r : Bool) (w : World) (hG : GG w) (h : annuitantlaw36_BankOnly.f k a0 = some r) :
  Calls Tryz.prog 8 #[.string a0] w fun e w' => e = .returned (.bool r) ∧ Below w.heap.size w w' := by
 have hu27 := Tryz.underlying27
 have hu30 := Tryz.underlying30
 have HG := Aside0.mk hG
 clear hG
 have HB := Aside0.mk (Below.refl w.heap.size w)
 have H : ((annuitantlaw36_awake.f k).bind fun t668 => (if t668 = true then (if (a0.size : Int) > 3000 then (some true) else ((bank_Read.f k a0).bind fun bt669 => ((bank_ReadAnswer.f k a0).bind fun bt676 => (if bt669.2.2.2 = 0 then ((bank_Write.f k bt669.1 bt669.2.1 bt669.2.2.1).bind fun bt683 => (if bt683.2 = 0 then (if bt683.1.toList = a0.toList then ((bank_Valid.f k bt669.1 bt669.2.1 bt669.2.2.1).bind fun t685 => (if t685 = true then (annuitantlaw36_BankOnly.j0 k a0 bt669.2.2.2 bt676.2.2.2 bt676.1 bt676.2.1 bt676.2.2.1) else (some false))) else (some false)) else (some false))) else (if bt669.1 = 0 then (if bt669.2.1 = 0 then (if (bt669.2.2.1.length : Int) > 0 then (some false) else (annuitantlaw36_BankOnly.j0 k a0 bt669.2.2.2 bt676.2.2.2 bt676.1 bt676.2.1 bt676.2.2.1)) else (some false)) else (some false)))))) else (some false))) = some r := h
 clear h
 replace H := Option.bind_eq_some_iff.mp H
 obtain ⟨t668, A20, H⟩ := H
 replace H : (if t668 = true then (if (a0.size : Int) > 3000 then (some true) else ((bank_Read.f k a0).bind fun bt669 => ((bank_ReadAnswer.f k a0).bind fun bt676 => (if bt669.2.2.2 = 0 then ((bank_Write.f k bt669.1 bt669.2.1 bt669.2.2.1).bind fun bt683 => (if bt683.2 = 0 then (if bt683.1.toList = a0.toList then ((bank_Valid.f k bt669.1 bt669.2.1 bt669.2.2.1).bind fun t685 => (if t685 = true then (annuitantlaw36_BankOnly.j0 k a0 bt669.2.2.2 bt676.2.2.2 bt676.1 bt676.2.1 bt676.2.2.1) else (some false))) else (some false)) else (some false))) else (if bt669.1 = 0 then (if bt669.2.1 = 0 then (if (bt669.2.2.1.length : Int) > 0 then (some false) else (annuitantlaw36_BankOnly.j0 k a0 bt669.2.2.2 bt676.2.2.2 bt676.1 bt676.2.1 bt676.2.2.1)) else (some false)) else (some false)))))) else (some false)) = some r := H
 have A2 := Aside0.mk A20
 clear A20
 by_cases c3 : t668 = true
 ·
  subst c3
  have H1 : (if (a0.size : Int) > 3000 then (some true) else ((bank_Read.f k a0).bind fun bt669 => ((bank_ReadAnswer.f k a0).bind fun bt676 => (if bt669.2.2.2 = 0 then ((bank_Write.f k bt669.1 bt669.2.1 bt669.2.2.1).bind fun bt683 => (if bt683.2 = 0 then (if bt683.1.toList = a0.toList then ((bank_Valid.f k bt669.1 bt669.2.1 bt669.2.2.1).bind fun t685 => (if t685 = true then (annuitantlaw36_BankOnly.j0 k a0 bt669.2.2.2 bt676.2.2.2 bt676.1 bt676.2.1 bt676.2.2.1) else (some false))) else (some false)) else (some false))) else (if bt669.1 = 0 then (if bt669.2.1 = 0 then (if (bt669.2.2.1.length : Int) > 0 then (some false) else (annuitantlaw36_BankOnly.j0 k a0 bt669.2.2.2 bt676.2.2.2 bt676.1 bt676.2.1 bt676.2.2.1)) else (some false)) else (some false)))))) = some r := by rw [if_pos rfl] at H; exact H
  clear H
  have H := H1
  clear H1
  by_cases c4 : (a0.size : Int) > 3000
  ·
   rw [if_pos c4] at H
   have c4b0 : decide (3000 < (a0.size : Int)) = true := decide_eq_true c4
   have c4b1 : decide (3000 < a0.size) = true := decide_eq_true (by omega)
   clear c4
   obtain rfl := Option.some.inj H
   go_enter Tryz.func8, Tryz.ntmps8
   go_wp2_with (first | ((with_reducible refine gate_callee (f := 9) rfl ?_); refine goesL_ (some 11) rfl rfl Tryz.func9 (by kernel_rfl) rfl #[] rfl (by (try simp only [List.map_toArray, List.map_cons, List.map_nil]); first | done | rfl | (simp only [List.length_drop, List.length_take]; rfl)) ?_; (with_reducible refine (annuitantlaw36_awake.calls k  true _ ?side1 A2.out).mono ?_); (case side1 => exact GG.below HG.out (by repeat (first | (with_reducible first | exact HB.out | apply below_alloc | apply pw_below_drewN | apply below_drew1) | exact HB.out))); rintro e w5 ⟨rfl, hb⟩; refine ⟨_, rfl, ?_⟩; have n0_ := Aside0.mk (below_step (by repeat (first | (with_reducible first | exact HB.out | apply below_alloc | apply pw_below_drewN | apply below_drew1) | exact HB.out)) hb); clear HB; have HB := n0_; clear n0_; (try clear hb); (try clear hb2); (try clear hk); (try clear hi)))
   go_ret
   exact ⟨by first | rfl | (simp [errW_none, errW_some] <;> rfl) | (simp [*, errW_none, errW_some] <;> rfl), by repeat (first | (with_reducible first | exact HB.out | apply below_alloc | apply pw_below_drewN | apply below_drew1) | exact HB.out)⟩
  ·
   rw [if_neg c4] at H
   have c4b0 : decide (3000 < (a0.size : Int)) = false := decide_eq_false c4
   have c4b1 : decide (3000 < a0.size) = false := decide_eq_false (by omega)
   clear c4
   replace H := Option.bind_eq_some_iff.mp H
   obtain ⟨⟨t669, t670, t671, t674⟩, A60, H⟩ := H
   replace H : ((bank_ReadAnswer.f k a0).bind fun bt676 => (if t674 = 0 then ((bank_Write.f k t669 t670 t671).bind fun bt683 => (if bt683.2 = 0 then (if bt683.1.toList = a0.toList then ((bank_Valid.f k t669 t670 t671).bind fun t685 => (if t685 = true then (annuitantlaw36_BankOnly.j0 k a0 t674 bt676.2.2.2 bt676.1 bt676.2.1 bt676.2.2.1) else (some false))) else (some false)) else (some false))) else (if t669 = 0 then (if t670 = 0 then (if (t671.length : Int) > 0 then (some false) else (annuitantlaw36_BankOnly.j0 k a0 t674 bt676.2.2.2 bt676.1 bt676.2.1 bt676.2.2.1)) else (some false)) else (some false)))) = some r := H
   have A6 := Aside0.mk A60
   clear A60
   replace H := Option.bind_eq_some_iff.mp H
   obtain ⟨⟨t676, t677, t678, t681⟩, A70, H⟩ := H
   replace H : (if t674 = 0 then ((bank_Write.f k t669 t670 t671).bind fun bt683 => (if bt683.2 = 0 then (if bt683.1.toList = a0.toList then ((bank_Valid.f k t669 t670 t671).bind fun t685 => (if t685 = true then (annuitantlaw36_BankOnly.j0 k a0 t674 t681 t676 t677 t678) else (some false))) else (some false)) else (some false))) else (if t669 = 0 then (if t670 = 0 then (if (t671.length : Int) > 0 then (some false) else (annuitantlaw36_BankOnly.j0 k a0 t674 t681 t676 t677 t678)) else (some false)) else (some false))) = some r := H
   have A7 := Aside0.mk A70
   clear A70
   have HC8 := Aside0.mk H
   clear H
   go_enter Tryz.func8, Tryz.ntmps8
   go_upto_if 27 with (first | ((with_reducible refine gate_callee (f := 9) rfl ?_); refine goesL_ (some 11) rfl rfl Tryz.func9 (by kernel_rfl) rfl #[] rfl (by (try simp only [List.map_toArray, List.map_cons, List.map_nil]); first | done | rfl | (simp only [List.length_drop, List.length_take]; rfl)) ?_; (with_reducible refine (annuitantlaw36_awake.calls k  true _ ?side1 A2.out).mono ?_); (case side1 => exact GG.below HG.out (by repeat (first | (with_reducible first | exact HB.out | apply below_alloc | apply pw_below_drewN | apply below_drew1) | exact HB.out))); rintro e w9 ⟨rfl, hb⟩; refine ⟨_, rfl, ?_⟩; have n0_ := Aside0.mk (below_step (by repeat (first | (with_reducible first | exact HB.out | apply below_alloc | apply pw_below_drewN | apply below_drew1) | exact HB.out)) hb); clear HB; have HB := n0_; clear n0_; (try clear hb); (try clear hb2); (try clear hk); (try clear hi)) | ((with_reducible refine gate_callee (f := 24) rfl ?_); refine goesL_ (some 18) rfl rfl Tryz.func24 (by kernel_rfl) rfl #[.string a0] rfl (by (try simp only [List.map_toArray, List.map_cons, List.map_nil]); first | done | rfl | (simp only [List.length_drop, List.length_take]; rfl)) ?_; (with_reducible refine (bank_Read.calls k a0 t669 t670 t671 t674 _ ?side1 A6.out).mono ?_); (case side1 => exact GG.below HG.out (by repeat (first | (with_reducible first | exact HB.out | apply below_alloc | apply pw_below_drewN | apply below_drew1) | exact HB.out))); rintro e w10 ⟨v672, rfl, ho0, hb⟩; refine ⟨_, rfl, ?_⟩; have n0_ := Aside0.mk (Kd.R_lower ho0 (below_size (by repeat (first | (with_reducible first | exact HB.out | apply below_alloc | apply pw_below_drewN | apply below_drew1) | exact HB.out)))); have n1_ := Aside0.mk (below_step (by repeat (first | (with_reducible first | exact HB.out | apply below_alloc | apply pw_below_drewN | apply below_drew1) | exact HB.out)) hb); clear HB; have HO673 := n0_; have HB := n1_; clear n0_ n1_; (try clear hb); (try clear hb2); (try clear hk); (try clear hi); (try clear ho0)) | ((with_reducible refine gate_dst (N := 3) rfl ?_); (try (refine gate_guard (by rfl) ?_; dsimp only)); refine box_event ?hg (N := 3) ?hd (cs := #[.int .i64 0, .int .i64 0, .slice none 0 0]) (t := 27) ?hr ?_; (case hd => rfl); (case hg => rfl); (case hr => first | (go_simp; done) | (go_simp; rfl)); intro gb675 hg w11 hbox hb; have n0_ := Aside0.mk (Kd.R_below (by (with_reducible repeat (first | apply Kd.R_alloc | apply Kd.R_drewN | apply Kd.R_drew)); exact HO673.out) hb); have n1_ := Aside0.mk (below_step (by repeat (first | (with_reducible first | exact HB.out | apply below_alloc | apply pw_below_drewN | apply below_drew1) | exact HB.out)) hb); have n2_ := Aside0.mk (hbox); have n3_ := Aside0.mk ((by rw [hg]; exact (below_size (by repeat (first | (with_reducible first | exact HB.out | apply below_alloc | apply pw_below_drewN | apply below_drew1) | exact HB.out))) : w.heap.size ≤ gb675)); have n4_ := Aside0.mk ((by rw [hg]; exact (below_size (by repeat (first | (with_reducible first | exact HB.out | apply below_alloc | apply pw_below_drewN | apply below_drew1) | exact HB.out))) : w.heap.size ≤ gb675)); clear HO673; clear HB; have HO673 := n0_; have HB := n1_; have BK675 := n2_; have GW675 := n3_; have GE675 := n4_; clear n0_ n1_ n2_ n3_ n4_; clear hb hbox hg; have hcz12_0 : w11.cell? ⟨gb675, 0, none⟩ = some (.int .i64 0) := (blk_cell BK675.out 0).trans rfl; have hcz12_1 : w11.cell? ⟨gb675, 1, none⟩ = some (.int .i64 0) := (blk_cell BK675.out 1).trans rfl; have hcz12_2 : w11.cell? ⟨gb675, 2, none⟩ = some (.slice none 0 0) := (blk_cell BK675.out 2).trans rfl; have hfz12_0 := blk_frozen BK675.out 0; have hfz12_1 := blk_frozen BK675.out 1; have hfz12_2 := blk_frozen BK675.out 2; obtain ⟨Ao13, co13, eo13⟩ := Kd.R_slice HO673.out; subst eo13) | ((with_reducible refine gate_callee (f := 25) rfl ?_); refine goesL_ (some 23) rfl rfl Tryz.func25 (by kernel_rfl) rfl #[.string a0] rfl (by (try simp only [List.map_toArray, List.map_cons, List.map_nil]); first | done | rfl | (simp only [List.length_drop, List.length_take]; rfl)) ?_; (with_reducible refine (bank_ReadAnswer.calls k a0 t676 t677 t678 t681 _ ?side1 A7.out).mono ?_); (case side1 => exact GG.below HG.out (by repeat (first | (with_reducible first | exact HB.out | apply below_alloc | apply pw_below_drewN | apply below_drew1 | refine below_set ?_ GE675.out) | exact HB.out))); rintro e w14 ⟨v679, rfl, ho0, hb⟩; refine ⟨_, rfl, ?_⟩; have n0_ := Aside0.mk (Kd.R_below (by (with_reducible repeat (first | apply Kd.R_alloc | apply Kd.R_drewN | apply Kd.R_drew)); exact (Kd.R_mono (Kd.R_far (p := ⟨gb675, 2, none⟩) (Kd.R_far (p := ⟨gb675, 1, none⟩) (Kd.R_far (p := ⟨gb675, 0, none⟩) (Kd.R_types HO673.out BK675.out (by decide)) (fun _ hk => hk.2) (.int .i64 t669)) (fun _ hk => hk.2) (.int .i64 t670)) (fun _ hk => hk.2) (.slice Ao13 t671.length co13)) (fun _ h_ => h_.1))) hb); have n1_ := Aside0.mk (Kd.R_lower ho0 (below_size (by repeat (first | (with_reducible first | exact HB.out | apply below_alloc | apply pw_below_drewN | apply below_drew1 | refine below_set ?_ GE675.out) | exact HB.out)))); have n2_ := Aside0.mk (blk_below (g := gb675) (o := .cells #[.int .i64 t669, .int .i64 t670, .slice Ao13 t671.length co13] 27 (0, 0)) (by (with_reducible repeat (first | refine blk_drewN ?_ _ | refine blk_drew ?_ | refine blk_alloc ?_ _)); refine blk_put (cs := #[.int .i64 t669, .int .i64 t670, .slice none 0 0]) ?_ 2 _ rfl; (with_reducible repeat (first | refine blk_drewN ?_ _ | refine blk_drew ?_ | refine blk_alloc ?_ _)); refine blk_put (cs := #[.int .i64 t669, .int .i64 0, .slice none 0 0]) ?_ 1 _ rfl; (with_reducible repeat (first | refine blk_drewN ?_ _ | refine blk_drew ?_ | refine blk_alloc ?_ _)); refine blk_put (cs := #[.int .i64 0, .int .i64 0, .slice none 0 0]) ?_ 0 _ rfl; (with_reducible repeat (first | refine blk_drewN ?_ _ | refine blk_drew ?_ | refine blk_alloc ?_ _)); exact BK675.out) hb); have n3_ := Aside0.mk (below_step (by repeat (first | (with_reducible first | exact HB.out | apply below_alloc | apply pw_below_drewN | apply below_drew1 | refine below_set ?_ GE675.out) | exact HB.out)) hb); clear HO673; clear BK675; clear HB; have HO673 := n0_; have HO680 := n1_; have BK675 := n2_; have HB := n3_; clear n0_ n1_ n2_ n3_; (try clear hb); (try clear hb2); (try clear hk); (try clear hi); (try clear ho0)) | ((with_reducible refine gate_dst (N := 5) rfl ?_); (try (refine gate_guard (by rfl) ?_; dsimp only)); refine box_event ?hg (N := 5) ?hd (cs := #[.int .i64 0, .int .i64 0, .slice none 0 0]) (t := 30) ?hr ?_; (case hd => rfl); (case hg => rfl); (case hr => first | (go_simp; done) | (go_simp; rfl)); intro gb682 hg w15 hbox hb; have n0_ := Aside0.mk (Kd.R_below (by (with_reducible repeat (first | apply Kd.R_alloc | apply Kd.R_drewN | apply Kd.R_drew)); exact HO673.out) hb); have n1_ := Aside0.mk (Kd.R_below (by (with_reducible repeat (first | apply Kd.R_alloc | apply Kd.R_drewN | apply Kd.R_drew)); exact HO680.out) hb); have n2_ := Aside0.mk (blk_below (g := gb675) (o := .cells #[.int .i64 t669, .int .i64 t670, .slice Ao13 t671.length co13] 27 (0, 0)) (by (with_reducible repeat (first | refine blk_drewN ?_ _ | refine blk_drew ?_ | refine blk_alloc ?_ _)); exact BK675.out) hb); have n3_ := Aside0.mk (below_step (by repeat (first | (with_reducible first | exact HB.out | apply below_alloc | apply pw_below_drewN | apply below_drew1 | refine below_set ?_ GE675.out) | exact HB.out)) hb); have n4_ := Aside0.mk (hbox); have n5_ := Aside0.mk ((by rw [hg]; exact (below_size (by repeat (first | (with_reducible first | exact HB.out | apply below_alloc | apply pw_below_drewN | apply below_drew1 | refine below_set ?_ GE675.out) | exact HB.out))) : w.heap.size ≤ gb682)); have n6_ := Aside0.mk ((by rw [hg]; exact (below_size (by repeat (first | (with_reducible first | exact HB.out | apply below_alloc | apply pw_below_drewN | apply below_drew1 | refine below_set ?_ GE675.out) | exact HB.out))) : w.heap.size ≤ gb682)); have n7_ := Aside0.mk ((by rw [hg]; exact Nat.ne_of_lt (blk_lt (g := gb675) (o := .cells #[.int .i64 t669, .int .i64 t670, .slice Ao13 t671.length co13] 27 (0, 0)) (by (with_reducible repeat (first | refine blk_drewN ?_ _ | refine blk_drew ?_ | refine blk_alloc ?_ _)); exact BK675.out)) : gb675 ≠ gb682)); have n8_ := Aside0.mk ((by rw [hg]; exact Nat.ne_of_gt (blk_lt (g := gb675) (o := .cells #[.int .i64 t669, .int .i64 t670, .slice Ao13 t671.length co13] 27 (0, 0)) (by (with_reducible repeat (first | refine blk_drewN ?_ _ | refine blk_drew ?_ | refine blk_alloc ?_ _)); exact BK675.out)) : gb682 ≠ gb675)); clear HO673; clear HO680; clear BK675; clear HB; have HO673 := n0_; have HO680 := n1_; have BK675 := n2_; have HB := n3_; have BK682 := n4_; have GW682 := n5_; have GE682 := n6_; have NB675_682 := n7_; have NB682_675 := n8_; clear n0_ n1_ n2_ n3_ n4_ n5_ n6_ n7_ n8_; clear hb hbox hg; have hnb16 := NB682_675.out; have hnc16 := NB675_682.out; have hcz17_0 : w15.cell? ⟨gb682, 0, none⟩ = some (.int .i64 0) := (blk_cell BK682.out 0).trans rfl; have hcz17_1 : w15.cell? ⟨gb682, 1, none⟩ = some (.int .i64 0) := (blk_cell BK682.out 1).trans rfl; have hcz17_2 : w15.cell? ⟨gb682, 2, none⟩ = some (.slice none 0 0) := (blk_cell BK682.out 2).trans rfl; have hfz17_0 := blk_frozen BK682.out 0; have hfz17_1 := blk_frozen BK682.out 1; have hfz17_2 := blk_frozen BK682.out 2; obtain ⟨Ao18, co18, eo18⟩ := Kd.R_slice HO680.out; subst eo18))
   (try simp only [Act.put, List.setIfInBounds_toArray, List.set_cons_zero, List.set_cons_succ])
   go_cut [] (fun wc => ∃ (kq : Nat), Aside0 (annuitantlaw36_BankOnly.j0 kq a0 t674 t681 t676 t677 t678 = some r) ∧ Aside0 (kq ≤ k) ∧ Aside0 (Kd.R k47 47 wc w.heap.size (fun _ => True) (.slice Ao13 t671.length co13) t671) ∧ Aside0 (Kd.R k49 49 wc w.heap.size (fun _ => True) (.slice Ao18 t678.length co18) t678) ∧ Aside0 (wc.heap[gb675]? = some (.cells #[.int .i64 t669, .int .i64 t670, (.slice Ao13 t671.length co13)] 27 (0, 0))) ∧ Aside0 (wc.heap[gb682]? = some (.cells #[.int .i64 t676, .int .i64 t677, (.slice Ao18 t678.length co18)] 30 (0, 0))) ∧ Aside0 (Below w.heap.size w wc))
   case first =>
    have H := HC8.out
    clear HC8
    by_cases c19 : t674 = 0
    ·
     rw [if_pos c19] at H
     have c19b0 : (t674 == 0) = true := beq_iff_eq.mpr c19
     have c19b1 : (t674 != 0) = false := bne_eq_false_iff_eq.mpr c19
     clear c19
     (first | rw [c19b0] | (simp only [i64_w, i32_w]; rw [c19b0]) | skip)
     replace H := Option.bind_eq_some_iff.mp H
     obtain ⟨⟨t683, t684⟩, A200, H⟩ := H
     replace H : (if t684 = 0 then (if t683.toList = a0.toList then ((bank_Valid.f k t669 t670 t671).bind fun t685 => (if t685 = true then (annuitantlaw36_BankOnly.j0 k a0 t674 t681 t676 t677 t678) else (some false))) else (some false)) else (some false)) = some r := H
     have A20 := Aside0.mk A200
     clear A200
     by_cases c21 : t684 = 0
     ·
      rw [if_pos c21] at H
      have c21b0 : (t684 == 0) = true := beq_iff_eq.mpr c21
      have c21b1 : (t684 != 0) = false := bne_eq_false_iff_eq.mpr c21
      clear c21
      by_cases c22 : t683.toList = a0.toList
      ·
       rw [if_pos c22] at H
       have c22b0 : (t683.toList == a0.toList) = true := beq_iff_eq.mpr c22
       have c22b1 : (t683.toList != a0.toList) = false := bne_eq_false_iff_eq.mpr c22
       clear c22
       replace H := Option.bind_eq_some_iff.mp H
       obtain ⟨t685, A230, H⟩ := H
       replace H : (if t685 = true then (annuitantlaw36_BankOnly.j0 k a0 t674 t681 t676 t677 t678) else (some false)) = some r := H
       have A23 := Aside0.mk A230
       clear A230
       by_cases c24 : t685 = true
       ·
        subst c24
        have H1 : (annuitantlaw36_BankOnly.j0 k a0 t674 t681 t676 t677 t678) = some r := by rw [if_pos rfl] at H; exact H
        clear H
        have H := H1
        clear H1
        have H' := Aside0.mk H
        clear H
        have hnb25 := NB675_682.out
        have hnc25 := NB682_675.out
        have hcz26_0 : w15.cell? ⟨gb675, 0, none⟩ = some (.int .i64 t669) := (blk_cell BK675.out 0).trans rfl
        have hcz26_1 : w15.cell? ⟨gb675, 1, none⟩ = some (.int .i64 t670) := (blk_cell BK675.out 1).trans rfl
        have hcz26_2 : w15.cell? ⟨gb675, 2, none⟩ = some (.slice Ao13 t671.length co13) := (blk_cell BK675.out 2).trans rfl
        have hfz26_0 := blk_frozen BK675.out 0
        have hfz26_1 := blk_frozen BK675.out 1
        have hfz26_2 := blk_frozen BK675.out 2
        go_wp2_with (first | ((with_reducible refine gate_callee (f := 23) rfl ?_); refine goesL_ (some 30) rfl rfl Tryz.func23 (by kernel_rfl) rfl #[.agg #[.int .i64 t669, .int .i64 t670, .slice Ao13 t671.length co13]] rfl (by (try simp only [List.map_toArray, List.map_cons, List.map_nil]); first | done | rfl | (simp only [List.length_drop, List.length_take]; rfl)) ?_; (with_reducible refine (bank_Write.calls k t669 t670 _ _ t671 t683 t684 _ ?side1 ?side2 ?side3 A20.out).mono ?_); (case side1 => refine (Kd.R_reads' (e := 47) (base := w.heap.size) (ok := fun k_ => True) (n := t671.length) (c := co13) ?_).2.2; exact (by (with_reducible repeat (first | apply Kd.R_alloc | apply Kd.R_drewN | apply Kd.R_drew)); exact (Kd.R_mono (Kd.R_far (p := ⟨gb682, 2, none⟩) (Kd.R_far (p := ⟨gb682, 1, none⟩) (Kd.R_far (p := ⟨gb682, 0, none⟩) (Kd.R_types HO673.out BK682.out (by decide)) (fun _ hk => hk.2) (.int .i64 t676)) (fun _ hk => hk.2) (.int .i64 t677)) (fun _ hk => hk.2) (.slice Ao18 t678.length co18)) (fun _ h_ => h_.1)))); (case side2 => exact (Kd.R_reads' HO673.out).2.1); (case side3 => exact GG.below HG.out (by repeat (first | (with_reducible first | exact HB.out | apply below_alloc | apply pw_below_drewN | apply below_drew1 | refine below_set ?_ GE675.out | refine below_set ?_ GE682.out) | exact HB.out))); rintro e w27 ⟨rfl, hb⟩; refine ⟨_, rfl, ?_⟩; have n0_ := Aside0.mk (Kd.R_below (by (with_reducible repeat (first | apply Kd.R_alloc | apply Kd.R_drewN | apply Kd.R_drew)); exact (Kd.R_mono (Kd.R_far (p := ⟨gb682, 2, none⟩) (Kd.R_far (p := ⟨gb682, 1, none⟩) (Kd.R_far (p := ⟨gb682, 0, none⟩) (Kd.R_types HO673.out BK682.out (by decide)) (fun _ hk => hk.2) (.int .i64 t676)) (fun _ hk => hk.2) (.int .i64 t677)) (fun _ hk => hk.2) (.slice Ao18 t678.length co18)) (fun _ h_ => h_.1))) hb); have n1_ := Aside0.mk (Kd.R_below (by (with_reducible repeat (first | apply Kd.R_alloc | apply Kd.R_drewN | apply Kd.R_drew)); exact (Kd.R_mono (Kd.R_far (p := ⟨gb682, 2, none⟩) (Kd.R_far (p := ⟨gb682, 1, none⟩) (Kd.R_far (p := ⟨gb682, 0, none⟩) (Kd.R_types HO680.out BK682.out (by decide)) (fun _ hk => hk.2) (.int .i64 t676)) (fun _ hk => hk.2) (.int .i64 t677)) (fun _ hk => hk.2) (.slice Ao18 t678.length co18)) (fun _ h_ => h_.1))) hb); have n2_ := Aside0.mk (blk_below (g := gb675) (o := .cells #[.int .i64 t669, .int .i64 t670, .slice Ao13 t671.length co13] 27 (0, 0)) (by (with_reducible repeat (first | refine blk_drewN ?_ _ | refine blk_drew ?_ | refine blk_alloc ?_ _)); refine blk_far ?_ NB675_682.out _; (with_reducible repeat (first | refine blk_drewN ?_ _ | refine blk_drew ?_ | refine blk_alloc ?_ _)); refine blk_far ?_ NB675_682.out _; (with_reducible repeat (first | refine blk_drewN ?_ _ | refine blk_drew ?_ | refine blk_alloc ?_ _)); refine blk_far ?_ NB675_682.out _; (with_reducible repeat (first | refine blk_drewN ?_ _ | refine blk_drew ?_ | refine blk_alloc ?_ _)); exact BK675.out) hb); have n3_ := Aside0.mk (blk_below (g := gb682) (o := .cells #[.int .i64 t676, .int .i64 t677, .slice Ao18 t678.length co18] 30 (0, 0)) (by (with_reducible repeat (first | refine blk_drewN ?_ _ | refine blk_drew ?_ | refine blk_alloc ?_ _)); refine blk_put (cs := #[.int .i64 t676, .int .i64 t677, .slice none 0 0]) ?_ 2 _ rfl; (with_reducible repeat (first | refine blk_drewN ?_ _ | refine blk_drew ?_ | refine blk_alloc ?_ _)); refine blk_put (cs := #[.int .i64 t676, .int .i64 0, .slice none 0 0]) ?_ 1 _ rfl; (with_reducible repeat (first | refine blk_drewN ?_ _ | refine blk_drew ?_ | refine blk_alloc ?_ _)); refine blk_put (cs := #[.int .i64 0, .int .i64 0, .slice none 0 0]) ?_ 0 _ rfl; (with_reducible repeat (first | refine blk_drewN ?_ _ | refine blk_drew ?_ | refine blk_alloc ?_ _)); exact BK682.out) hb); have n4_ := Aside0.mk (below_step (by repeat (first | (with_reducible first | exact HB.out | apply below_alloc | apply pw_below_drewN | apply below_drew1 | refine below_set ?_ GE675.out | refine below_set ?_ GE682.out) | exact HB.out)) hb); clear HO673; clear HO680; clear BK675; clear BK682; clear HB; have HO673 := n0_; have HO680 := n1_; have BK675 := n2_; have BK682 := n3_; have HB := n4_; clear n0_ n1_ n2_ n3_ n4_; (try clear hb); (try clear hb2); (try clear hk); (try clear hi); have hcz28_0 : w27.cell? ⟨gb675, 0, none⟩ = some (.int .i64 t669) := (blk_cell BK675.out 0).trans rfl; have hcz28_1 : w27.cell? ⟨gb675, 1, none⟩ = some (.int .i64 t670) := (blk_cell BK675.out 1).trans rfl; have hcz28_2 : w27.cell? ⟨gb675, 2, none⟩ = some (.slice Ao13 t671.length co13) := (blk_cell BK675.out 2).trans rfl; have hfz28_0 := blk_frozen BK675.out 0; have hfz28_1 := blk_frozen BK675.out 1; have hfz28_2 := blk_frozen BK675.out 2) | (go_at_call 22; (with_reducible refine (bank_Valid.calls k t669 t670 _ _ t671 true _ ?side1 ?side2 A23.out).mono ?_); (case side1 => repeat (first | exact (Kd.R_reads' HO673.out).2.2 | (with_reducible refine Kd.C_alloc ?_ _) | (with_reducible refine Kd.C_drewN ?_ _) | (with_reducible refine Kd.C_drew ?_))); (case side2 => exact (Kd.R_reads' HO673.out).2.1); rintro e w29 ⟨rfl, hb⟩; have n0_ := Aside0.mk (Kd.R_below (by (with_reducible repeat (first | apply Kd.R_alloc | apply Kd.R_drewN | apply Kd.R_drew)); exact HO673.out) hb); have n1_ := Aside0.mk (Kd.R_below (by (with_reducible repeat (first | apply Kd.R_alloc | apply Kd.R_drewN | apply Kd.R_drew)); exact HO680.out) hb); have n2_ := Aside0.mk (blk_below (g := gb675) (o := .cells #[.int .i64 t669, .int .i64 t670, .slice Ao13 t671.length co13] 27 (0, 0)) (by (with_reducible repeat (first | refine blk_drewN ?_ _ | refine blk_drew ?_ | refine blk_alloc ?_ _)); exact BK675.out) hb); have n3_ := Aside0.mk (blk_below (g := gb682) (o := .cells #[.int .i64 t676, .int .i64 t677, .slice Ao18 t678.length co18] 30 (0, 0)) (by (with_reducible repeat (first | refine blk_drewN ?_ _ | refine blk_drew ?_ | refine blk_alloc ?_ _)); exact BK682.out) hb); have n4_ := Aside0.mk (below_step (by repeat (first | (with_reducible first | exact HB.out | apply below_alloc | apply pw_below_drewN | apply below_drew1 | refine below_set ?_ GE675.out | refine below_set ?_ GE682.out) | exact HB.out)) hb); clear HO673; clear HO680; clear BK675; clear BK682; clear HB; have HO673 := n0_; have HO680 := n1_; have BK675 := n2_; have BK682 := n3_; have HB := n4_; clear n0_ n1_ n2_ n3_ n4_; (try clear hb); (try clear hb2); (try clear hk); (try clear hi)))
        go_meet
        case rel => exact ⟨_, H', ⟨by first | omega | exact Nat.le_refl _⟩, ⟨by (with_reducible repeat (first | apply Kd.R_alloc | apply Kd.R_drewN | apply Kd.R_drew)); exact HO673.out⟩, ⟨by (with_reducible repeat (first | apply Kd.R_alloc | apply Kd.R_drewN | apply Kd.R_drew)); exact HO680.out⟩, ⟨by (with_reducible repeat (first | refine blk_drewN ?_ _ | refine blk_drew ?_ | refine blk_alloc ?_ _)); exact BK675.out⟩, ⟨by (with_reducible repeat (first | refine blk_drewN ?_ _ | refine blk_drew ?_ | refine blk_alloc ?_ _)); exact BK682.out⟩, ⟨by repeat (first | (with_reducible first | exact HB.out | apply below_alloc | apply pw_below_drewN | apply below_drew1 | refine below_set ?_ GE675.out | refine below_set ?_ GE682.out) | exact HB.out)⟩⟩
       ·
        replace c24 := Bool.eq_false_iff.mpr c24
        subst c24
        have H1 : (some false) = some r := by rw [if_neg (show ¬ (false = true) by decide)] at H; exact H
        clear H
        have H := H1
        clear H1
        obtain rfl := Option.some.inj H
        have hnb30 := NB675_682.out
        have hnc30 := NB682_675.out
        have hcz31_0 : w15.cell? ⟨gb675, 0, none⟩ = some (.int .i64 t669) := (blk_cell BK675.out 0).trans rfl
        have hcz31_1 : w15.cell? ⟨gb675, 1, none⟩ = some (.int .i64 t670) := (blk_cell BK675.out 1).trans rfl
        have hcz31_2 : w15.cell? ⟨gb675, 2, none⟩ = some (.slice Ao13 t671.length co13) := (blk_cell BK675.out 2).trans rfl
        have hfz31_0 := blk_frozen BK675.out 0
        have hfz31_1 := blk_frozen BK675.out 1
        have hfz31_2 := blk_frozen BK675.out 2
        go_wp2_with (first | ((with_reducible refine gate_callee (f := 23) rfl ?_); refine goesL_ (some 30) rfl rfl Tryz.func23 (by kernel_rfl) rfl #[.agg #[.int .i64 t669, .int .i64 t670, .slice Ao13 t671.length co13]] rfl (by (try simp only [List.map_toArray, List.map_cons, List.map_nil]); first | done | rfl | (simp only [List.length_drop, List.length_take]; rfl)) ?_; (with_reducible refine (bank_Write.calls k t669 t670 _ _ t671 t683 t684 _ ?side1 ?side2 ?side3 A20.out).mono ?_); (case side1 => refine (Kd.R_reads' (e := 47) (base := w.heap.size) (ok := fun k_ => True) (n := t671.length) (c := co13) ?_).2.2; exact (by (with_reducible repeat (first | apply Kd.R_alloc | apply Kd.R_drewN | apply Kd.R_drew)); exact (Kd.R_mono (Kd.R_far (p := ⟨gb682, 2, none⟩) (Kd.R_far (p := ⟨gb682, 1, none⟩) (Kd.R_far (p := ⟨gb682, 0, none⟩) (Kd.R_types HO673.out BK682.out (by decide)) (fun _ hk => hk.2) (.int .i64 t676)) (fun _ hk => hk.2) (.int .i64 t677)) (fun _ hk => hk.2) (.slice Ao18 t678.length co18)) (fun _ h_ => h_.1)))); (case side2 => exact (Kd.R_reads' HO673.out).2.1); (case side3 => exact GG.below HG.out (by repeat (first | (with_reducible first | exact HB.out | apply below_alloc | apply pw_below_drewN | apply below_drew1 | refine below_set ?_ GE675.out | refine below_set ?_ GE682.out) | exact HB.out))); rintro e w32 ⟨rfl, hb⟩; refine ⟨_, rfl, ?_⟩; have n0_ := Aside0.mk (Kd.R_below (by (with_reducible repeat (first | apply Kd.R_alloc | apply Kd.R_drewN | apply Kd.R_drew)); exact (Kd.R_mono (Kd.R_far (p := ⟨gb682, 2, none⟩) (Kd.R_far (p := ⟨gb682, 1, none⟩) (Kd.R_far (p := ⟨gb682, 0, none⟩) (Kd.R_types HO673.out BK682.out (by decide)) (fun _ hk => hk.2) (.int .i64 t676)) (fun _ hk => hk.2) (.int .i64 t677)) (fun _ hk => hk.2) (.slice Ao18 t678.length co18)) (fun _ h_ => h_.1))) hb); have n1_ := Aside0.mk (Kd.R_below (by (with_reducible repeat (first | apply Kd.R_alloc | apply Kd.R_drewN | apply Kd.R_drew)); exact (Kd.R_mono (Kd.R_far (p := ⟨gb682, 2, none⟩) (Kd.R_far (p := ⟨gb682, 1, none⟩) (Kd.R_far (p := ⟨gb682, 0, none⟩) (Kd.R_types HO680.out BK682.out (by decide)) (fun _ hk => hk.2) (.int .i64 t676)) (fun _ hk => hk.2) (.int .i64 t677)) (fun _ hk => hk.2) (.slice Ao18 t678.length co18)) (fun _ h_ => h_.1))) hb); have n2_ := Aside0.mk (blk_below (g := gb675) (o := .cells #[.int .i64 t669, .int .i64 t670, .slice Ao13 t671.length co13] 27 (0, 0)) (by (with_reducible repeat (first | refine blk_drewN ?_ _ | refine blk_drew ?_ | refine blk_alloc ?_ _)); refine blk_far ?_ NB675_682.out _; (with_reducible repeat (first | refine blk_drewN ?_ _ | refine blk_drew ?_ | refine blk_alloc ?_ _)); refine blk_far ?_ NB675_682.out _; (with_reducible repeat (first | refine blk_drewN ?_ _ | refine blk_drew ?_ | refine blk_alloc ?_ _)); refine blk_far ?_ NB675_682.out _; (with_reducible repeat (first | refine blk_drewN ?_ _ | refine blk_drew ?_ | refine blk_alloc ?_ _)); exact BK675.out) hb); have n3_ := Aside0.mk (blk_below (g := gb682) (o := .cells #[.int .i64 t676, .int .i64 t677, .slice Ao18 t678.length co18] 30 (0, 0)) (by (with_reducible repeat (first | refine blk_drewN ?_ _ | refine blk_drew ?_ | refine blk_alloc ?_ _)); refine blk_put (cs := #[.int .i64 t676, .int .i64 t677, .slice none 0 0]) ?_ 2 _ rfl; (with_reducible repeat (first | refine blk_drewN ?_ _ | refine blk_drew ?_ | refine blk_alloc ?_ _)); refine blk_put (cs := #[.int .i64 t676, .int .i64 0, .slice none 0 0]) ?_ 1 _ rfl; (with_reducible repeat (first | refine blk_drewN ?_ _ | refine blk_drew ?_ | refine blk_alloc ?_ _)); refine blk_put (cs := #[.int .i64 0, .int .i64 0, .slice none 0 0]) ?_ 0 _ rfl; (with_reducible repeat (first | refine blk_drewN ?_ _ | refine blk_drew ?_ | refine blk_alloc ?_ _)); exact BK682.out) hb); have n4_ := Aside0.mk (below_step (by repeat (first | (with_reducible first | exact HB.out | apply below_alloc | apply pw_below_drewN | apply below_drew1 | refine below_set ?_ GE675.out | refine below_set ?_ GE682.out) | exact HB.out)) hb); clear HO673; clear HO680; clear BK675; clear BK682; clear HB; have HO673 := n0_; have HO680 := n1_; have BK675 := n2_; have BK682 := n3_; have HB := n4_; clear n0_ n1_ n2_ n3_ n4_; (try clear hb); (try clear hb2); (try clear hk); (try clear hi); have hcz33_0 : w32.cell? ⟨gb675, 0, none⟩ = some (.int .i64 t669) := (blk_cell BK675.out 0).trans rfl; have hcz33_1 : w32.cell? ⟨gb675, 1, none⟩ = some (.int .i64 t670) := (blk_cell BK675.out 1).trans rfl; have hcz33_2 : w32.cell? ⟨gb675, 2, none⟩ = some (.slice Ao13 t671.length co13) := (blk_cell BK675.out 2).trans rfl; have hfz33_0 := blk_frozen BK675.out 0; have hfz33_1 := blk_frozen BK675.out 1; have hfz33_2 := blk_frozen BK675.out 2) | (go_at_call 22; (with_reducible refine (bank_Valid.calls k t669 t670 _ _ t671 false _ ?side1 ?side2 A23.out).mono ?_); (case side1 => repeat (first | exact (Kd.R_reads' HO673.out).2.2 | (with_reducible refine Kd.C_alloc ?_ _) | (with_reducible refine Kd.C_drewN ?_ _) | (with_reducible refine Kd.C_drew ?_))); (case side2 => exact (Kd.R_reads' HO673.out).2.1); rintro e w34 ⟨rfl, hb⟩; have n0_ := Aside0.mk (Kd.R_below (by (with_reducible repeat (first | apply Kd.R_alloc | apply Kd.R_drewN | apply Kd.R_drew)); exact HO673.out) hb); have n1_ := Aside0.mk (Kd.R_below (by (with_reducible repeat (first | apply Kd.R_alloc | apply Kd.R_drewN | apply Kd.R_drew)); exact HO680.out) hb); have n2_ := Aside0.mk (blk_below (g := gb675) (o := .cells #[.int .i64 t669, .int .i64 t670, .slice Ao13 t671.length co13] 27 (0, 0)) (by (with_reducible repeat (first | refine blk_drewN ?_ _ | refine blk_drew ?_ | refine blk_alloc ?_ _)); exact BK675.out) hb); have n3_ := Aside0.mk (blk_below (g := gb682) (o := .cells #[.int .i64 t676, .int .i64 t677, .slice Ao18 t678.length co18] 30 (0, 0)) (by (with_reducible repeat (first | refine blk_drewN ?_ _ | refine blk_drew ?_ | refine blk_alloc ?_ _)); exact BK682.out) hb); have n4_ := Aside0.mk (below_step (by repeat (first | (with_reducible first | exact HB.out | apply below_alloc | apply pw_below_drewN | apply below_drew1 | refine below_set ?_ GE675.out | refine below_set ?_ GE682.out) | exact HB.out)) hb); clear HO673; clear HO680; clear BK675; clear BK682; clear HB; have HO673 := n0_; have HO680 := n1_; have BK675 := n2_; have BK682 := n3_; have HB := n4_; clear n0_ n1_ n2_ n3_ n4_; (try clear hb); (try clear hb2); (try clear hk); (try clear hi)))
        go_ret
        exact ⟨by first | rfl | (simp [errW_none, errW_some] <;> rfl) | (simp [*, errW_none, errW_some] <;> rfl), by repeat (first | (with_reducible first | exact HB.out | apply below_alloc | apply pw_below_drewN | apply below_drew1 | refine below_set ?_ GE675.out | refine below_set ?_ GE682.out) | exact HB.out)⟩
      ·
       rw [if_neg c22] at H
       have c22b0 : (t683.toList == a0.toList) = false := beq_eq_false_iff_ne.mpr c22
       have c22b1 : (t683.toList != a0.toList) = true := bne_iff_ne.mpr c22
       obtain rfl := Option.some.inj H
       have hnb35 := NB675_682.out
       have hnc35 := NB682_675.out
       have hcz36_0 : w15.cell? ⟨gb675, 0, none⟩ = some (.int .i64 t669) := (blk_cell BK675.out 0).trans rfl
       have hcz36_1 : w15.cell? ⟨gb675, 1, none⟩ = some (.int .i64 t670) := (blk_cell BK675.out 1).trans rfl
       have hcz36_2 : w15.cell? ⟨gb675, 2, none⟩ = some (.slice Ao13 t671.length co13) := (blk_cell BK675.out 2).trans rfl
       have hfz36_0 := blk_frozen BK675.out 0
       have hfz36_1 := blk_frozen BK675.out 1
       have hfz36_2 := blk_frozen BK675.out 2
       go_wp2_with (first | ((with_reducible refine gate_callee (f := 23) rfl ?_); refine goesL_ (some 30) rfl rfl Tryz.func23 (by kernel_rfl) rfl #[.agg #[.int .i64 t669, .int .i64 t670, .slice Ao13 t671.length co13]] rfl (by (try simp only [List.map_toArray, List.map_cons, List.map_nil]); first | done | rfl | (simp only [List.length_drop, List.length_take]; rfl)) ?_; (with_reducible refine (bank_Write.calls k t669 t670 _ _ t671 t683 t684 _ ?side1 ?side2 ?side3 A20.out).mono ?_); (case side1 => refine (Kd.R_reads' (e := 47) (base := w.heap.size) (ok := fun k_ => True) (n := t671.length) (c := co13) ?_).2.2; exact (by (with_reducible repeat (first | apply Kd.R_alloc | apply Kd.R_drewN | apply Kd.R_drew)); exact (Kd.R_mono (Kd.R_far (p := ⟨gb682, 2, none⟩) (Kd.R_far (p := ⟨gb682, 1, none⟩) (Kd.R_far (p := ⟨gb682, 0, none⟩) (Kd.R_types HO673.out BK682.out (by decide)) (fun _ hk => hk.2) (.int .i64 t676)) (fun _ hk => hk.2) (.int .i64 t677)) (fun _ hk => hk.2) (.slice Ao18 t678.length co18)) (fun _ h_ => h_.1)))); (case side2 => exact (Kd.R_reads' HO673.out).2.1); (case side3 => exact GG.below HG.out (by repeat (first | (with_reducible first | exact HB.out | apply below_alloc | apply pw_below_drewN | apply below_drew1 | refine below_set ?_ GE675.out | refine below_set ?_ GE682.out) | exact HB.out))); rintro e w37 ⟨rfl, hb⟩; refine ⟨_, rfl, ?_⟩; have n0_ := Aside0.mk (Kd.R_below (by (with_reducible repeat (first | apply Kd.R_alloc | apply Kd.R_drewN | apply Kd.R_drew)); exact (Kd.R_mono (Kd.R_far (p := ⟨gb682, 2, none⟩) (Kd.R_far (p := ⟨gb682, 1, none⟩) (Kd.R_far (p := ⟨gb682, 0, none⟩) (Kd.R_types HO673.out BK682.out (by decide)) (fun _ hk => hk.2) (.int .i64 t676)) (fun _ hk => hk.2) (.int .i64 t677)) (fun _ hk => hk.2) (.slice Ao18 t678.length co18)) (fun _ h_ => h_.1))) hb); have n1_ := Aside0.mk (Kd.R_below (by (with_reducible repeat (first | apply Kd.R_alloc | apply Kd.R_drewN | apply Kd.R_drew)); exact (Kd.R_mono (Kd.R_far (p := ⟨gb682, 2, none⟩) (Kd.R_far (p := ⟨gb682, 1, none⟩) (Kd.R_far (p := ⟨gb682, 0, none⟩) (Kd.R_types HO680.out BK682.out (by decide)) (fun _ hk => hk.2) (.int .i64 t676)) (fun _ hk => hk.2) (.int .i64 t677)) (fun _ hk => hk.2) (.slice Ao18 t678.length co18)) (fun _ h_ => h_.1))) hb); have n2_ := Aside0.mk (blk_below (g := gb675) (o := .cells #[.int .i64 t669, .int .i64 t670, .slice Ao13 t671.length co13] 27 (0, 0)) (by (with_reducible repeat (first | refine blk_drewN ?_ _ | refine blk_drew ?_ | refine blk_alloc ?_ _)); refine blk_far ?_ NB675_682.out _; (with_reducible repeat (first | refine blk_drewN ?_ _ | refine blk_drew ?_ | refine blk_alloc ?_ _)); refine blk_far ?_ NB675_682.out _; (with_reducible repeat (first | refine blk_drewN ?_ _ | refine blk_drew ?_ | refine blk_alloc ?_ _)); refine blk_far ?_ NB675_682.out _; (with_reducible repeat (first | refine blk_drewN ?_ _ | refine blk_drew ?_ | refine blk_alloc ?_ _)); exact BK675.out) hb); have n3_ := Aside0.mk (blk_below (g := gb682) (o := .cells #[.int .i64 t676, .int .i64 t677, .slice Ao18 t678.length co18] 30 (0, 0)) (by (with_reducible repeat (first | refine blk_drewN ?_ _ | refine blk_drew ?_ | refine blk_alloc ?_ _)); refine blk_put (cs := #[.int .i64 t676, .int .i64 t677, .slice none 0 0]) ?_ 2 _ rfl; (with_reducible repeat (first | refine blk_drewN ?_ _ | refine blk_drew ?_ | refine blk_alloc ?_ _)); refine blk_put (cs := #[.int .i64 t676, .int .i64 0, .slice none 0 0]) ?_ 1 _ rfl; (with_reducible repeat (first | refine blk_drewN ?_ _ | refine blk_drew ?_ | refine blk_alloc ?_ _)); refine blk_put (cs := #[.int .i64 0, .int .i64 0, .slice none 0 0]) ?_ 0 _ rfl; (with_reducible repeat (first | refine blk_drewN ?_ _ | refine blk_drew ?_ | refine blk_alloc ?_ _)); exact BK682.out) hb); have n4_ := Aside0.mk (below_step (by repeat (first | (with_reducible first | exact HB.out | apply below_alloc | apply pw_below_drewN | apply below_drew1 | refine below_set ?_ GE675.out | refine below_set ?_ GE682.out) | exact HB.out)) hb); clear HO673; clear HO680; clear BK675; clear BK682; clear HB; have HO673 := n0_; have HO680 := n1_; have BK675 := n2_; have BK682 := n3_; have HB := n4_; clear n0_ n1_ n2_ n3_ n4_; (try clear hb); (try clear hb2); (try clear hk); (try clear hi)))
       go_ret
       exact ⟨by first | rfl | (simp [errW_none, errW_some] <;> rfl) | (simp [*, errW_none, errW_some] <;> rfl), by repeat (first | (with_reducible first | exact HB.out | apply below_alloc | apply pw_below_drewN | apply below_drew1 | refine below_set ?_ GE675.out | refine below_set ?_ GE682.out) | exact HB.out)⟩
     ·
      rw [if_neg c21] at H
      have c21b0 : (t684 == 0) = false := beq_eq_false_iff_ne.mpr c21
      have c21b1 : (t684 != 0) = true := bne_iff_ne.mpr c21
      obtain rfl := Option.some.inj H
      have hnb38 := NB675_682.out
      have hnc38 := NB682_675.out
      have hcz39_0 : w15.cell? ⟨gb675, 0, none⟩ = some (.int .i64 t669) := (blk_cell BK675.out 0).trans rfl
      have hcz39_1 : w15.cell? ⟨gb675, 1, none⟩ = some (.int .i64 t670) := (blk_cell BK675.out 1).trans rfl
      have hcz39_2 : w15.cell? ⟨gb675, 2, none⟩ = some (.slice Ao13 t671.length co13) := (blk_cell BK675.out 2).trans rfl
      have hfz39_0 := blk_frozen BK675.out 0
      have hfz39_1 := blk_frozen BK675.out 1
      have hfz39_2 := blk_frozen BK675.out 2
      go_wp2_with (first | ((with_reducible refine gate_callee (f := 23) rfl ?_); refine goesL_ (some 30) rfl rfl Tryz.func23 (by kernel_rfl) rfl #[.agg #[.int .i64 t669, .int .i64 t670, .slice Ao13 t671.length co13]] rfl (by (try simp only [List.map_toArray, List.map_cons, List.map_nil]); first | done | rfl | (simp only [List.length_drop, List.length_take]; rfl)) ?_; (with_reducible refine (bank_Write.calls k t669 t670 _ _ t671 t683 t684 _ ?side1 ?side2 ?side3 A20.out).mono ?_); (case side1 => refine (Kd.R_reads' (e := 47) (base := w.heap.size) (ok := fun k_ => True) (n := t671.length) (c := co13) ?_).2.2; exact (by (with_reducible repeat (first | apply Kd.R_alloc | apply Kd.R_drewN | apply Kd.R_drew)); exact (Kd.R_mono (Kd.R_far (p := ⟨gb682, 2, none⟩) (Kd.R_far (p := ⟨gb682, 1, none⟩) (Kd.R_far (p := ⟨gb682, 0, none⟩) (Kd.R_types HO673.out BK682.out (by decide)) (fun _ hk => hk.2) (.int .i64 t676)) (fun _ hk => hk.2) (.int .i64 t677)) (fun _ hk => hk.2) (.slice Ao18 t678.length co18)) (fun _ h_ => h_.1)))); (case side2 => exact (Kd.R_reads' HO673.out).2.1); (case side3 => exact GG.below HG.out (by repeat (first | (with_reducible first | exact HB.out | apply below_alloc | apply pw_below_drewN | apply below_drew1 | refine below_set ?_ GE675.out | refine below_set ?_ GE682.out) | exact HB.out))); rintro e w40 ⟨rfl, hb⟩; refine ⟨_, rfl, ?_⟩; have n0_ := Aside0.mk (Kd.R_below (by (with_reducible repeat (first | apply Kd.R_alloc | apply Kd.R_drewN | apply Kd.R_drew)); exact (Kd.R_mono (Kd.R_far (p := ⟨gb682, 2, none⟩) (Kd.R_far (p := ⟨gb682, 1, none⟩) (Kd.R_far (p := ⟨gb682, 0, none⟩) (Kd.R_types HO673.out BK682.out (by decide)) (fun _ hk => hk.2) (.int .i64 t676)) (fun _ hk => hk.2) (.int .i64 t677)) (fun _ hk => hk.2) (.slice Ao18 t678.length co18)) (fun _ h_ => h_.1))) hb); have n1_ := Aside0.mk (Kd.R_below (by (with_reducible repeat (first | apply Kd.R_alloc | apply Kd.R_drewN | apply Kd.R_drew)); exact (Kd.R_mono (Kd.R_far (p := ⟨gb682, 2, none⟩) (Kd.R_far (p := ⟨gb682, 1, none⟩) (Kd.R_far (p := ⟨gb682, 0, none⟩) (Kd.R_types HO680.out BK682.out (by decide)) (fun _ hk => hk.2) (.int .i64 t676)) (fun _ hk => hk.2) (.int .i64 t677)) (fun _ hk => hk.2) (.slice Ao18 t678.length co18)) (fun _ h_ => h_.1))) hb); have n2_ := Aside0.mk (blk_below (g := gb675) (o := .cells #[.int .i64 t669, .int .i64 t670, .slice Ao13 t671.length co13] 27 (0, 0)) (by (with_reducible repeat (first | refine blk_drewN ?_ _ | refine blk_drew ?_ | refine blk_alloc ?_ _)); refine blk_far ?_ NB675_682.out _; (with_reducible repeat (first | refine blk_drewN ?_ _ | refine blk_drew ?_ | refine blk_alloc ?_ _)); refine blk_far ?_ NB675_682.out _; (with_reducible repeat (first | refine blk_drewN ?_ _ | refine blk_drew ?_ | refine blk_alloc ?_ _)); refine blk_far ?_ NB675_682.out _; (with_reducible repeat (first | refine blk_drewN ?_ _ | refine blk_drew ?_ | refine blk_alloc ?_ _)); exact BK675.out) hb); have n3_ := Aside0.mk (blk_below (g := gb682) (o := .cells #[.int .i64 t676, .int .i64 t677, .slice Ao18 t678.length co18] 30 (0, 0)) (by (with_reducible repeat (first | refine blk_drewN ?_ _ | refine blk_drew ?_ | refine blk_alloc ?_ _)); refine blk_put (cs := #[.int .i64 t676, .int .i64 t677, .slice none 0 0]) ?_ 2 _ rfl; (with_reducible repeat (first | refine blk_drewN ?_ _ | refine blk_drew ?_ | refine blk_alloc ?_ _)); refine blk_put (cs := #[.int .i64 t676, .int .i64 0, .slice none 0 0]) ?_ 1 _ rfl; (with_reducible repeat (first | refine blk_drewN ?_ _ | refine blk_drew ?_ | refine blk_alloc ?_ _)); refine blk_put (cs := #[.int .i64 0, .int .i64 0, .slice none 0 0]) ?_ 0 _ rfl; (with_reducible repeat (first | refine blk_drewN ?_ _ | refine blk_drew ?_ | refine blk_alloc ?_ _)); exact BK682.out) hb); have n4_ := Aside0.mk (below_step (by repeat (first | (with_reducible first | exact HB.out | apply below_alloc | apply pw_below_drewN | apply below_drew1 | refine below_set ?_ GE675.out | refine below_set ?_ GE682.out) | exact HB.out)) hb); clear HO673; clear HO680; clear BK675; clear BK682; clear HB; have HO673 := n0_; have HO680 := n1_; have BK675 := n2_; have BK682 := n3_; have HB := n4_; clear n0_ n1_ n2_ n3_ n4_; (try clear hb); (try clear hb2); (try clear hk); (try clear hi)))
      go_ret
      exact ⟨by first | rfl | (simp [errW_none, errW_some] <;> rfl) | (simp [*, errW_none, errW_some] <;> rfl), by repeat (first | (with_reducible first | exact HB.out | apply below_alloc | apply pw_below_drewN | apply below_drew1 | refine below_set ?_ GE675.out | refine below_set ?_ GE682.out) | exact HB.out)⟩
    ·
     rw [if_neg c19] at H
     have c19b0 : (t674 == 0) = false := beq_eq_false_iff_ne.mpr c19
     have c19b1 : (t674 != 0) = true := bne_iff_ne.mpr c19
     (first | rw [c19b0] | (simp only [i64_w, i32_w]; rw [c19b0]) | skip)
     by_cases c41 : t669 = 0
     ·
      rw [if_pos c41] at H
      have c41b0 : (t669 == 0) = true := beq_iff_eq.mpr c41
      have c41b1 : (t669 != 0) = false := bne_eq_false_iff_eq.mpr c41
      clear c41
      by_cases c42 : t670 = 0
      ·
       rw [if_pos c42] at H
       have c42b0 : (t670 == 0) = true := beq_iff_eq.mpr c42
       have c42b1 : (t670 != 0) = false := bne_eq_false_iff_eq.mpr c42
       clear c42
       by_cases c43 : (t671.length : Int) > 0
       ·
        rw [if_pos c43] at H
        have c43b0 : decide (0 < (t671.length : Int)) = true := decide_eq_true c43
        have c43b1 : decide (0 < t671.length) = true := decide_eq_true (by omega)
        clear c43
        obtain rfl := Option.some.inj H
        have hnb44 := NB675_682.out
        have hnc44 := NB682_675.out
        have hcz45_0 : w15.cell? ⟨gb675, 0, none⟩ = some (.int .i64 t669) := (blk_cell BK675.out 0).trans rfl
        have hcz45_1 : w15.cell? ⟨gb675, 1, none⟩ = some (.int .i64 t670) := (blk_cell BK675.out 1).trans rfl
        have hcz45_2 : w15.cell? ⟨gb675, 2, none⟩ = some (.slice Ao13 t671.length co13) := (blk_cell BK675.out 2).trans rfl
        have hfz45_0 := blk_frozen BK675.out 0
        have hfz45_1 := blk_frozen BK675.out 1
        have hfz45_2 := blk_frozen BK675.out 2
        go_wp2
        go_ret
        exact ⟨by first | rfl | (simp [errW_none, errW_some] <;> rfl) | (simp [*, errW_none, errW_some] <;> rfl), by repeat (first | (with_reducible first | exact HB.out | apply below_alloc | apply pw_below_drewN | apply below_drew1 | refine below_set ?_ GE675.out | refine below_set ?_ GE682.out) | exact HB.out)⟩
       ·
        rw [if_neg c43] at H
        have c43b0 : decide (0 < (t671.length : Int)) = false := decide_eq_false c43
        have c43b1 : decide (0 < t671.length) = false := decide_eq_false (by omega)
        clear c43
        have H' := Aside0.mk H
        clear H
        have hnb46 := NB675_682.out
        have hnc46 := NB682_675.out
        have hcz47_0 : w15.cell? ⟨gb675, 0, none⟩ = some (.int .i64 t669) := (blk_cell BK675.out 0).trans rfl
        have hcz47_1 : w15.cell? ⟨gb675, 1, none⟩ = some (.int .i64 t670) := (blk_cell BK675.out 1).trans rfl
        have hcz47_2 : w15.cell? ⟨gb675, 2, none⟩ = some (.slice Ao13 t671.length co13) := (blk_cell BK675.out 2).trans rfl
        have hfz47_0 := blk_frozen BK675.out 0
        have hfz47_1 := blk_frozen BK675.out 1
        have hfz47_2 := blk_frozen BK675.out 2
        go_wp2
        go_meet
        case rel => exact ⟨_, H', ⟨by first | omega | exact Nat.le_refl _⟩, ⟨by (with_reducible repeat (first | apply Kd.R_alloc | apply Kd.R_drewN | apply Kd.R_drew)); exact Kd.R_mono (Kd.R_far (p := ⟨gb682, 2, none⟩) (Kd.R_far (p := ⟨gb682, 1, none⟩) (Kd.R_far (p := ⟨gb682, 0, none⟩) (Kd.R_types HO673.out BK682.out (by decide)) (fun _ hk => hk.2) (.int .i64 t676)) (fun _ hk => hk.2) (.int .i64 t677)) (fun _ hk => hk.2) (.slice Ao18 t678.length co18)) (fun _ hk => trivial)⟩, ⟨by (with_reducible repeat (first | apply Kd.R_alloc | apply Kd.R_drewN | apply Kd.R_drew)); exact Kd.R_mono (Kd.R_far (p := ⟨gb682, 2, none⟩) (Kd.R_far (p := ⟨gb682, 1, none⟩) (Kd.R_far (p := ⟨gb682, 0, none⟩) (Kd.R_types HO680.out BK682.out (by decide)) (fun _ hk => hk.2) (.int .i64 t676)) (fun _ hk => hk.2) (.int .i64 t677)) (fun _ hk => hk.2) (.slice Ao18 t678.length co18)) (fun _ hk => trivial)⟩, ⟨by (with_reducible repeat (first | refine blk_drewN ?_ _ | refine blk_drew ?_ | refine blk_alloc ?_ _)); refine blk_far ?_ NB675_682.out _; (with_reducible repeat (first | refine blk_drewN ?_ _ | refine blk_drew ?_ | refine blk_alloc ?_ _)); refine blk_far ?_ NB675_682.out _; (with_reducible repeat (first | refine blk_drewN ?_ _ | refine blk_drew ?_ | refine blk_alloc ?_ _)); refine blk_far ?_ NB675_682.out _; (with_reducible repeat (first | refine blk_drewN ?_ _ | refine blk_drew ?_ | refine blk_alloc ?_ _)); exact BK675.out⟩, ⟨by (with_reducible repeat (first | refine blk_drewN ?_ _ | refine blk_drew ?_ | refine blk_alloc ?_ _)); refine blk_put (cs := #[.int .i64 t676, .int .i64 t677, .slice none 0 0]) ?_ 2 _ rfl; (with_reducible repeat (first | refine blk_drewN ?_ _ | refine blk_drew ?_ | refine blk_alloc ?_ _)); refine blk_put (cs := #[.int .i64 t676, .int .i64 0, .slice none 0 0]) ?_ 1 _ rfl; (with_reducible repeat (first | refine blk_drewN ?_ _ | refine blk_drew ?_ | refine blk_alloc ?_ _)); refine blk_put (cs := #[.int .i64 0, .int .i64 0, .slice none 0 0]) ?_ 0 _ rfl; (with_reducible repeat (first | refine blk_drewN ?_ _ | refine blk_drew ?_ | refine blk_alloc ?_ _)); exact BK682.out⟩, ⟨by repeat (first | (with_reducible first | exact HB.out | apply below_alloc | apply pw_below_drewN | apply below_drew1 | refine below_set ?_ GE675.out | refine below_set ?_ GE682.out) | exact HB.out)⟩⟩
      ·
       rw [if_neg c42] at H
       have c42b0 : (t670 == 0) = false := beq_eq_false_iff_ne.mpr c42
       have c42b1 : (t670 != 0) = true := bne_iff_ne.mpr c42
       obtain rfl := Option.some.inj H
       have hnb48 := NB675_682.out
       have hnc48 := NB682_675.out
       have hcz49_0 : w15.cell? ⟨gb675, 0, none⟩ = some (.int .i64 t669) := (blk_cell BK675.out 0).trans rfl
       have hcz49_1 : w15.cell? ⟨gb675, 1, none⟩ = some (.int .i64 t670) := (blk_cell BK675.out 1).trans rfl
       have hcz49_2 : w15.cell? ⟨gb675, 2, none⟩ = some (.slice Ao13 t671.length co13) := (blk_cell BK675.out 2).trans rfl
       have hfz49_0 := blk_frozen BK675.out 0
       have hfz49_1 := blk_frozen BK675.out 1
       have hfz49_2 := blk_frozen BK675.out 2
       go_wp2
       go_ret
       exact ⟨by first | rfl | (simp [errW_none, errW_some] <;> rfl) | (simp [*, errW_none, errW_some] <;> rfl), by repeat (first | (with_reducible first | exact HB.out | apply below_alloc | apply pw_below_drewN | apply below_drew1 | refine below_set ?_ GE675.out | refine below_set ?_ GE682.out) | exact HB.out)⟩
     ·
      rw [if_neg c41] at H
      have c41b0 : (t669 == 0) = false := beq_eq_false_iff_ne.mpr c41
      have c41b1 : (t669 != 0) = true := bne_iff_ne.mpr c41
      obtain rfl := Option.some.inj H
      have hnb50 := NB675_682.out
      have hnc50 := NB682_675.out
      have hcz51_0 : w15.cell? ⟨gb675, 0, none⟩ = some (.int .i64 t669) := (blk_cell BK675.out 0).trans rfl
      have hcz51_1 : w15.cell? ⟨gb675, 1, none⟩ = some (.int .i64 t670) := (blk_cell BK675.out 1).trans rfl
      have hcz51_2 : w15.cell? ⟨gb675, 2, none⟩ = some (.slice Ao13 t671.length co13) := (blk_cell BK675.out 2).trans rfl
      have hfz51_0 := blk_frozen BK675.out 0
      have hfz51_1 := blk_frozen BK675.out 1
      have hfz51_2 := blk_frozen BK675.out 2
      go_wp2
      go_ret
      exact ⟨by first | rfl | (simp [errW_none, errW_some] <;> rfl) | (simp [*, errW_none, errW_some] <;> rfl), by repeat (first | (with_reducible first | exact HB.out | apply below_alloc | apply pw_below_drewN | apply below_drew1 | refine below_set ?_ GE675.out | refine below_set ?_ GE682.out) | exact HB.out)⟩
   case rest =>
    clear HC8
    try clear c1
    try clear c2
    try clear p2
    try clear c3
    try clear c4
    try clear c4b0
    try clear c4b1
    try clear c5
    try clear c8
    try clear c9
    try clear c16
    try clear c19
    try clear c19b0
    try clear c19b1
    try clear c21
    try clear c21b0
    try clear c21b1
    try clear c22
    try clear c22b0
    try clear c22b1
    try clear c23
    try clear c24
    try clear c25
    try clear c30
    try clear c35
    try clear c38
    try clear c41
    try clear c41b0
    try clear c41b1
    try clear c42
    try clear c42b0
    try clear c42b1
    try clear c43
    try clear c43b0
    try clear c43b1
    try clear c44
    try clear c46
    try clear c48
    try clear c50
    try clear hcz12_0
    try clear hcz12_1
    try clear hcz12_2
    try clear hcz17_0
    try clear hcz17_1
    try clear hcz17_2
    try clear hcz26_0
    try clear hcz26_1
    try clear hcz26_2
    try clear hcz28_0
    try clear hcz28_1
    try clear hcz28_2
    try clear hcz31_0
    try clear hcz31_1
    try clear hcz31_2
    try clear hcz33_0
    try clear hcz33_1
    try clear hcz33_2
    try clear hcz36_0
    try clear hcz36_1
    try clear hcz36_2
    try clear hcz39_0
    try clear hcz39_1
    try clear hcz39_2
    try clear hcz45_0
    try clear hcz45_1
    try clear hcz45_2
    try clear hcz47_0
    try clear hcz47_1
    try clear hcz47_2
    try clear hcz49_0
    try clear hcz49_1
    try clear hcz49_2
    try clear hcz51_0
    try clear hcz51_1
    try clear hcz51_2
    try clear hfz12_0
    try clear hfz12_1
    try clear hfz12_2
    try clear hfz17_0
    try clear hfz17_1
    try clear hfz17_2
    try clear hfz26_0
    try clear hfz26_1
    try clear hfz26_2
    try clear hfz28_0
    try clear hfz28_1
    try clear hfz28_2
    try clear hfz31_0
    try clear hfz31_1
    try clear hfz31_2
    try clear hfz33_0
    try clear hfz33_1
    try clear hfz33_2
    try clear hfz36_0
    try clear hfz36_1
    try clear hfz36_2
    try clear hfz39_0
    try clear hfz39_1
    try clear hfz39_2
    try clear hfz45_0
    try clear hfz45_1
    try clear hfz45_2
    try clear hfz47_0
    try clear hfz47_1
    try clear hfz47_2
    try clear hfz49_0
    try clear hfz49_1
    try clear hfz49_2
    try clear hfz51_0
    try clear hfz51_1
    try clear hfz51_2
    obtain ⟨kq, HA, HJ7, HO_676002, HO_683002, BK675, BK682, HB⟩ := hcut
    cases kq with
    | zero => exact absurd HA.out (by simp [annuitantlaw36_BankOnly.j0])
    | succ kj7 =>
     have H := HA.out
     clear HA
     simp only [annuitantlaw36_BankOnly.j0] at H
     by_cases c52 : t681 = 0
     ·
      rw [if_pos c52] at H
      have c52b0 : (t681 == 0) = true := beq_iff_eq.mpr c52
      have c52b1 : (t681 != 0) = false := bne_eq_false_iff_eq.mpr c52
      clear c52
      replace H := Option.bind_eq_some_iff.mp H
      obtain ⟨⟨t686, t687⟩, A530, H⟩ := H
      replace H : (if t687 = 0 then (if t686.toList = a0.toList then ((bank_Right.f kj7 t676 t677 t678).bind fun t688 => (if t688 = true then (some (t674 != 0)) else (some false))) else (some false)) else (some false)) = some r := H
      have A53 := Aside0.mk A530
      clear A530
      by_cases c54 : t687 = 0
      ·
       rw [if_pos c54] at H
       have c54b0 : (t687 == 0) = true := beq_iff_eq.mpr c54
       have c54b1 : (t687 != 0) = false := bne_eq_false_iff_eq.mpr c54
       clear c54
       by_cases c55 : t686.toList = a0.toList
       ·
        rw [if_pos c55] at H
        have c55b0 : (t686.toList == a0.toList) = true := beq_iff_eq.mpr c55
        have c55b1 : (t686.toList != a0.toList) = false := bne_eq_false_iff_eq.mpr c55
        clear c55
        replace H := Option.bind_eq_some_iff.mp H
        obtain ⟨t688, A560, H⟩ := H
        replace H : (if t688 = true then (some (t674 != 0)) else (some false)) = some r := H
        have A56 := Aside0.mk A560
        clear A560
        by_cases c57 : t688 = true
        ·
         subst c57
         have H1 : (some (t674 != 0)) = some r := by rw [if_pos rfl] at H; exact H
         clear H
         have H := H1
         clear H1
         obtain rfl := Option.some.inj H
         have hnb58 := NB682_675.out
         have hnc58 := NB675_682.out
         have hcz59_0 : wc.cell? ⟨gb682, 0, none⟩ = some (.int .i64 t676) := (blk_cell BK682.out 0).trans rfl
         have hcz59_1 : wc.cell? ⟨gb682, 1, none⟩ = some (.int .i64 t677) := (blk_cell BK682.out 1).trans rfl
         have hcz59_2 : wc.cell? ⟨gb682, 2, none⟩ = some (.slice Ao18 t678.length co18) := (blk_cell BK682.out 2).trans rfl
         have hfz59_0 := blk_frozen BK682.out 0
         have hfz59_1 := blk_frozen BK682.out 1
         have hfz59_2 := blk_frozen BK682.out 2
         go_wp2_with (first | ((with_reducible refine gate_callee (f := 29) rfl ?_); refine goesL_ (some 77) rfl rfl Tryz.func29 (by kernel_rfl) rfl #[.agg #[.int .i64 t676, .int .i64 t677, .slice Ao18 t678.length co18]] rfl (by (try simp only [List.map_toArray, List.map_cons, List.map_nil]); first | done | rfl | (simp only [List.length_drop, List.length_take]; rfl)) ?_; (with_reducible refine (bank_WriteAnswer.calls kj7 t676 t677 _ _ t678 t686 t687 _ ?side1 ?side2 ?side3 A53.out).mono ?_); (case side1 => repeat (first | exact (Kd.R_reads' HO_683002.out).2.2 | (with_reducible refine Kd.C_alloc ?_ _) | (with_reducible refine Kd.C_drewN ?_ _) | (with_reducible refine Kd.C_drew ?_))); (case side2 => exact (Kd.R_reads' HO_683002.out).2.1); (case side3 => exact GG.below HG.out (by repeat (first | (with_reducible first | exact HB.out | apply below_alloc | apply pw_below_drewN | apply below_drew1 | refine below_set ?_ GE675.out | refine below_set ?_ GE682.out) | exact HB.out))); rintro e w60 ⟨rfl, hb⟩; refine ⟨_, rfl, ?_⟩; have n0_ := Aside0.mk (Kd.R_below (by (with_reducible repeat (first | apply Kd.R_alloc | apply Kd.R_drewN | apply Kd.R_drew)); exact HO_676002.out) hb); have n1_ := Aside0.mk (Kd.R_below (by (with_reducible repeat (first | apply Kd.R_alloc | apply Kd.R_drewN | apply Kd.R_drew)); exact HO_683002.out) hb); have n2_ := Aside0.mk (blk_below (g := gb675) (o := .cells #[.int .i64 t669, .int .i64 t670, .slice Ao13 t671.length co13] 27 (0, 0)) (by (with_reducible repeat (first | refine blk_drewN ?_ _ | refine blk_drew ?_ | refine blk_alloc ?_ _)); exact BK675.out) hb); have n3_ := Aside0.mk (blk_below (g := gb682) (o := .cells #[.int .i64 t676, .int .i64 t677, .slice Ao18 t678.length co18] 30 (0, 0)) (by (with_reducible repeat (first | refine blk_drewN ?_ _ | refine blk_drew ?_ | refine blk_alloc ?_ _)); exact BK682.out) hb); have n4_ := Aside0.mk (below_step (by repeat (first | (with_reducible first | exact HB.out | apply below_alloc | apply pw_below_drewN | apply below_drew1 | refine below_set ?_ GE675.out | refine below_set ?_ GE682.out) | exact HB.out)) hb); clear HO_676002; clear HO_683002; clear BK675; clear BK682; clear HB; have HO_676002 := n0_; have HO_683002 := n1_; have BK675 := n2_; have BK682 := n3_; have HB := n4_; clear n0_ n1_ n2_ n3_ n4_; (try clear hb); (try clear hb2); (try clear hk); (try clear hi); have hcz61_0 : w60.cell? ⟨gb682, 0, none⟩ = some (.int .i64 t676) := (blk_cell BK682.out 0).trans rfl; have hcz61_1 : w60.cell? ⟨gb682, 1, none⟩ = some (.int .i64 t677) := (blk_cell BK682.out 1).trans rfl; have hcz61_2 : w60.cell? ⟨gb682, 2, none⟩ = some (.slice Ao18 t678.length co18) := (blk_cell BK682.out 2).trans rfl; have hfz61_0 := blk_frozen BK682.out 0; have hfz61_1 := blk_frozen BK682.out 1; have hfz61_2 := blk_frozen BK682.out 2) | (go_at_call 28; (with_reducible refine (bank_Right.calls kj7 t676 t677 _ _ t678 true _ ?side1 ?side2 A56.out).mono ?_); (case side1 => repeat (first | exact (Kd.R_reads' HO_683002.out).2.2 | (with_reducible refine Kd.C_alloc ?_ _) | (with_reducible refine Kd.C_drewN ?_ _) | (with_reducible refine Kd.C_drew ?_))); (case side2 => exact (Kd.R_reads' HO_683002.out).2.1); rintro e w62 ⟨rfl, hb⟩; have n0_ := Aside0.mk (Kd.R_below (by (with_reducible repeat (first | apply Kd.R_alloc | apply Kd.R_drewN | apply Kd.R_drew)); exact HO_676002.out) hb); have n1_ := Aside0.mk (Kd.R_below (by (with_reducible repeat (first | apply Kd.R_alloc | apply Kd.R_drewN | apply Kd.R_drew)); exact HO_683002.out) hb); have n2_ := Aside0.mk (blk_below (g := gb675) (o := .cells #[.int .i64 t669, .int .i64 t670, .slice Ao13 t671.length co13] 27 (0, 0)) (by (with_reducible repeat (first | refine blk_drewN ?_ _ | refine blk_drew ?_ | refine blk_alloc ?_ _)); exact BK675.out) hb); have n3_ := Aside0.mk (blk_below (g := gb682) (o := .cells #[.int .i64 t676, .int .i64 t677, .slice Ao18 t678.length co18] 30 (0, 0)) (by (with_reducible repeat (first | refine blk_drewN ?_ _ | refine blk_drew ?_ | refine blk_alloc ?_ _)); exact BK682.out) hb); have n4_ := Aside0.mk (below_step (by repeat (first | (with_reducible first | exact HB.out | apply below_alloc | apply pw_below_drewN | apply below_drew1 | refine below_set ?_ GE675.out | refine below_set ?_ GE682.out) | exact HB.out)) hb); clear HO_676002; clear HO_683002; clear BK675; clear BK682; clear HB; have HO_676002 := n0_; have HO_683002 := n1_; have BK675 := n2_; have BK682 := n3_; have HB := n4_; clear n0_ n1_ n2_ n3_ n4_; (try clear hb); (try clear hb2); (try clear hk); (try clear hi)))
         go_ret
         exact ⟨by first | rfl | (simp [errW_none, errW_some] <;> rfl) | (simp [*, errW_none, errW_some] <;> rfl), by repeat (first | (with_reducible first | exact HB.out | apply below_alloc | apply pw_below_drewN | apply below_drew1 | refine below_set ?_ GE675.out | refine below_set ?_ GE682.out) | exact HB.out)⟩
        ·
         replace c57 := Bool.eq_false_iff.mpr c57
         subst c57
         have H1 : (some false) = some r := by rw [if_neg (show ¬ (false = true) by decide)] at H; exact H
         clear H
         have H := H1
         clear H1
         obtain rfl := Option.some.inj H
         have hnb63 := NB682_675.out
         have hnc63 := NB675_682.out
         have hcz64_0 : wc.cell? ⟨gb682, 0, none⟩ = some (.int .i64 t676) := (blk_cell BK682.out 0).trans rfl
         have hcz64_1 : wc.cell? ⟨gb682, 1, none⟩ = some (.int .i64 t677) := (blk_cell BK682.out 1).trans rfl
         have hcz64_2 : wc.cell? ⟨gb682, 2, none⟩ = some (.slice Ao18 t678.length co18) := (blk_cell BK682.out 2).trans rfl
         have hfz64_0 := blk_frozen BK682.out 0
         have hfz64_1 := blk_frozen BK682.out 1
         have hfz64_2 := blk_frozen BK682.out 2
         go_wp2_with (first | ((with_reducible refine gate_callee (f := 29) rfl ?_); refine goesL_ (some 77) rfl rfl Tryz.func29 (by kernel_rfl) rfl #[.agg #[.int .i64 t676, .int .i64 t677, .slice Ao18 t678.length co18]] rfl (by (try simp only [List.map_toArray, List.map_cons, List.map_nil]); first | done | rfl | (simp only [List.length_drop, List.length_take]; rfl)) ?_; (with_reducible refine (bank_WriteAnswer.calls kj7 t676 t677 _ _ t678 t686 t687 _ ?side1 ?side2 ?side3 A53.out).mono ?_); (case side1 => repeat (first | exact (Kd.R_reads' HO_683002.out).2.2 | (with_reducible refine Kd.C_alloc ?_ _) | (with_reducible refine Kd.C_drewN ?_ _) | (with_reducible refine Kd.C_drew ?_))); (case side2 => exact (Kd.R_reads' HO_683002.out).2.1); (case side3 => exact GG.below HG.out (by repeat (first | (with_reducible first | exact HB.out | apply below_alloc | apply pw_below_drewN | apply below_drew1 | refine below_set ?_ GE675.out | refine below_set ?_ GE682.out) | exact HB.out))); rintro e w65 ⟨rfl, hb⟩; refine ⟨_, rfl, ?_⟩; have n0_ := Aside0.mk (Kd.R_below (by (with_reducible repeat (first | apply Kd.R_alloc | apply Kd.R_drewN | apply Kd.R_drew)); exact HO_676002.out) hb); have n1_ := Aside0.mk (Kd.R_below (by (with_reducible repeat (first | apply Kd.R_alloc | apply Kd.R_drewN | apply Kd.R_drew)); exact HO_683002.out) hb); have n2_ := Aside0.mk (blk_below (g := gb675) (o := .cells #[.int .i64 t669, .int .i64 t670, .slice Ao13 t671.length co13] 27 (0, 0)) (by (with_reducible repeat (first | refine blk_drewN ?_ _ | refine blk_drew ?_ | refine blk_alloc ?_ _)); exact BK675.out) hb); have n3_ := Aside0.mk (blk_below (g := gb682) (o := .cells #[.int .i64 t676, .int .i64 t677, .slice Ao18 t678.length co18] 30 (0, 0)) (by (with_reducible repeat (first | refine blk_drewN ?_ _ | refine blk_drew ?_ | refine blk_alloc ?_ _)); exact BK682.out) hb); have n4_ := Aside0.mk (below_step (by repeat (first | (with_reducible first | exact HB.out | apply below_alloc | apply pw_below_drewN | apply below_drew1 | refine below_set ?_ GE675.out | refine below_set ?_ GE682.out) | exact HB.out)) hb); clear HO_676002; clear HO_683002; clear BK675; clear BK682; clear HB; have HO_676002 := n0_; have HO_683002 := n1_; have BK675 := n2_; have BK682 := n3_; have HB := n4_; clear n0_ n1_ n2_ n3_ n4_; (try clear hb); (try clear hb2); (try clear hk); (try clear hi); have hcz66_0 : w65.cell? ⟨gb682, 0, none⟩ = some (.int .i64 t676) := (blk_cell BK682.out 0).trans rfl; have hcz66_1 : w65.cell? ⟨gb682, 1, none⟩ = some (.int .i64 t677) := (blk_cell BK682.out 1).trans rfl; have hcz66_2 : w65.cell? ⟨gb682, 2, none⟩ = some (.slice Ao18 t678.length co18) := (blk_cell BK682.out 2).trans rfl; have hfz66_0 := blk_frozen BK682.out 0; have hfz66_1 := blk_frozen BK682.out 1; have hfz66_2 := blk_frozen BK682.out 2) | (go_at_call 28; (with_reducible refine (bank_Right.calls kj7 t676 t677 _ _ t678 false _ ?side1 ?side2 A56.out).mono ?_); (case side1 => repeat (first | exact (Kd.R_reads' HO_683002.out).2.2 | (with_reducible refine Kd.C_alloc ?_ _) | (with_reducible refine Kd.C_drewN ?_ _) | (with_reducible refine Kd.C_drew ?_))); (case side2 => exact (Kd.R_reads' HO_683002.out).2.1); rintro e w67 ⟨rfl, hb⟩; have n0_ := Aside0.mk (Kd.R_below (by (with_reducible repeat (first | apply Kd.R_alloc | apply Kd.R_drewN | apply Kd.R_drew)); exact HO_676002.out) hb); have n1_ := Aside0.mk (Kd.R_below (by (with_reducible repeat (first | apply Kd.R_alloc | apply Kd.R_drewN | apply Kd.R_drew)); exact HO_683002.out) hb); have n2_ := Aside0.mk (blk_below (g := gb675) (o := .cells #[.int .i64 t669, .int .i64 t670, .slice Ao13 t671.length co13] 27 (0, 0)) (by (with_reducible repeat (first | refine blk_drewN ?_ _ | refine blk_drew ?_ | refine blk_alloc ?_ _)); exact BK675.out) hb); have n3_ := Aside0.mk (blk_below (g := gb682) (o := .cells #[.int .i64 t676, .int .i64 t677, .slice Ao18 t678.length co18] 30 (0, 0)) (by (with_reducible repeat (first | refine blk_drewN ?_ _ | refine blk_drew ?_ | refine blk_alloc ?_ _)); exact BK682.out) hb); have n4_ := Aside0.mk (below_step (by repeat (first | (with_reducible first | exact HB.out | apply below_alloc | apply pw_below_drewN | apply below_drew1 | refine below_set ?_ GE675.out | refine below_set ?_ GE682.out) | exact HB.out)) hb); clear HO_676002; clear HO_683002; clear BK675; clear BK682; clear HB; have HO_676002 := n0_; have HO_683002 := n1_; have BK675 := n2_; have BK682 := n3_; have HB := n4_; clear n0_ n1_ n2_ n3_ n4_; (try clear hb); (try clear hb2); (try clear hk); (try clear hi)))
         go_ret
         exact ⟨by first | rfl | (simp [errW_none, errW_some] <;> rfl) | (simp [*, errW_none, errW_some] <;> rfl), by repeat (first | (with_reducible first | exact HB.out | apply below_alloc | apply pw_below_drewN | apply below_drew1 | refine below_set ?_ GE675.out | refine below_set ?_ GE682.out) | exact HB.out)⟩
       ·
        rw [if_neg c55] at H
        have c55b0 : (t686.toList == a0.toList) = false := beq_eq_false_iff_ne.mpr c55
        have c55b1 : (t686.toList != a0.toList) = true := bne_iff_ne.mpr c55
        obtain rfl := Option.some.inj H
        have hnb68 := NB682_675.out
        have hnc68 := NB675_682.out
        have hcz69_0 : wc.cell? ⟨gb682, 0, none⟩ = some (.int .i64 t676) := (blk_cell BK682.out 0).trans rfl
        have hcz69_1 : wc.cell? ⟨gb682, 1, none⟩ = some (.int .i64 t677) := (blk_cell BK682.out 1).trans rfl
        have hcz69_2 : wc.cell? ⟨gb682, 2, none⟩ = some (.slice Ao18 t678.length co18) := (blk_cell BK682.out 2).trans rfl
        have hfz69_0 := blk_frozen BK682.out 0
        have hfz69_1 := blk_frozen BK682.out 1
        have hfz69_2 := blk_frozen BK682.out 2
        go_wp2_with (first | ((with_reducible refine gate_callee (f := 29) rfl ?_); refine goesL_ (some 77) rfl rfl Tryz.func29 (by kernel_rfl) rfl #[.agg #[.int .i64 t676, .int .i64 t677, .slice Ao18 t678.length co18]] rfl (by (try simp only [List.map_toArray, List.map_cons, List.map_nil]); first | done | rfl | (simp only [List.length_drop, List.length_take]; rfl)) ?_; (with_reducible refine (bank_WriteAnswer.calls kj7 t676 t677 _ _ t678 t686 t687 _ ?side1 ?side2 ?side3 A53.out).mono ?_); (case side1 => repeat (first | exact (Kd.R_reads' HO_683002.out).2.2 | (with_reducible refine Kd.C_alloc ?_ _) | (with_reducible refine Kd.C_drewN ?_ _) | (with_reducible refine Kd.C_drew ?_))); (case side2 => exact (Kd.R_reads' HO_683002.out).2.1); (case side3 => exact GG.below HG.out (by repeat (first | (with_reducible first | exact HB.out | apply below_alloc | apply pw_below_drewN | apply below_drew1 | refine below_set ?_ GE675.out | refine below_set ?_ GE682.out) | exact HB.out))); rintro e w70 ⟨rfl, hb⟩; refine ⟨_, rfl, ?_⟩; have n0_ := Aside0.mk (Kd.R_below (by (with_reducible repeat (first | apply Kd.R_alloc | apply Kd.R_drewN | apply Kd.R_drew)); exact HO_676002.out) hb); have n1_ := Aside0.mk (Kd.R_below (by (with_reducible repeat (first | apply Kd.R_alloc | apply Kd.R_drewN | apply Kd.R_drew)); exact HO_683002.out) hb); have n2_ := Aside0.mk (blk_below (g := gb675) (o := .cells #[.int .i64 t669, .int .i64 t670, .slice Ao13 t671.length co13] 27 (0, 0)) (by (with_reducible repeat (first | refine blk_drewN ?_ _ | refine blk_drew ?_ | refine blk_alloc ?_ _)); exact BK675.out) hb); have n3_ := Aside0.mk (blk_below (g := gb682) (o := .cells #[.int .i64 t676, .int .i64 t677, .slice Ao18 t678.length co18] 30 (0, 0)) (by (with_reducible repeat (first | refine blk_drewN ?_ _ | refine blk_drew ?_ | refine blk_alloc ?_ _)); exact BK682.out) hb); have n4_ := Aside0.mk (below_step (by repeat (first | (with_reducible first | exact HB.out | apply below_alloc | apply pw_below_drewN | apply below_drew1 | refine below_set ?_ GE675.out | refine below_set ?_ GE682.out) | exact HB.out)) hb); clear HO_676002; clear HO_683002; clear BK675; clear BK682; clear HB; have HO_676002 := n0_; have HO_683002 := n1_; have BK675 := n2_; have BK682 := n3_; have HB := n4_; clear n0_ n1_ n2_ n3_ n4_; (try clear hb); (try clear hb2); (try clear hk); (try clear hi)))
        go_ret
        exact ⟨by first | rfl | (simp [errW_none, errW_some] <;> rfl) | (simp [*, errW_none, errW_some] <;> rfl), by repeat (first | (with_reducible first | exact HB.out | apply below_alloc | apply pw_below_drewN | apply below_drew1 | refine below_set ?_ GE675.out | refine below_set ?_ GE682.out) | exact HB.out)⟩
      ·
       rw [if_neg c54] at H
       have c54b0 : (t687 == 0) = false := beq_eq_false_iff_ne.mpr c54
       have c54b1 : (t687 != 0) = true := bne_iff_ne.mpr c54
       obtain rfl := Option.some.inj H
       have hnb71 := NB682_675.out
       have hnc71 := NB675_682.out
       have hcz72_0 : wc.cell? ⟨gb682, 0, none⟩ = some (.int .i64 t676) := (blk_cell BK682.out 0).trans rfl
       have hcz72_1 : wc.cell? ⟨gb682, 1, none⟩ = some (.int .i64 t677) := (blk_cell BK682.out 1).trans rfl
       have hcz72_2 : wc.cell? ⟨gb682, 2, none⟩ = some (.slice Ao18 t678.length co18) := (blk_cell BK682.out 2).trans rfl
       have hfz72_0 := blk_frozen BK682.out 0
       have hfz72_1 := blk_frozen BK682.out 1
       have hfz72_2 := blk_frozen BK682.out 2
       go_wp2_with (first | ((with_reducible refine gate_callee (f := 29) rfl ?_); refine goesL_ (some 77) rfl rfl Tryz.func29 (by kernel_rfl) rfl #[.agg #[.int .i64 t676, .int .i64 t677, .slice Ao18 t678.length co18]] rfl (by (try simp only [List.map_toArray, List.map_cons, List.map_nil]); first | done | rfl | (simp only [List.length_drop, List.length_take]; rfl)) ?_; (with_reducible refine (bank_WriteAnswer.calls kj7 t676 t677 _ _ t678 t686 t687 _ ?side1 ?side2 ?side3 A53.out).mono ?_); (case side1 => repeat (first | exact (Kd.R_reads' HO_683002.out).2.2 | (with_reducible refine Kd.C_alloc ?_ _) | (with_reducible refine Kd.C_drewN ?_ _) | (with_reducible refine Kd.C_drew ?_))); (case side2 => exact (Kd.R_reads' HO_683002.out).2.1); (case side3 => exact GG.below HG.out (by repeat (first | (with_reducible first | exact HB.out | apply below_alloc | apply pw_below_drewN | apply below_drew1 | refine below_set ?_ GE675.out | refine below_set ?_ GE682.out) | exact HB.out))); rintro e w73 ⟨rfl, hb⟩; refine ⟨_, rfl, ?_⟩; have n0_ := Aside0.mk (Kd.R_below (by (with_reducible repeat (first | apply Kd.R_alloc | apply Kd.R_drewN | apply Kd.R_drew)); exact HO_676002.out) hb); have n1_ := Aside0.mk (Kd.R_below (by (with_reducible repeat (first | apply Kd.R_alloc | apply Kd.R_drewN | apply Kd.R_drew)); exact HO_683002.out) hb); have n2_ := Aside0.mk (blk_below (g := gb675) (o := .cells #[.int .i64 t669, .int .i64 t670, .slice Ao13 t671.length co13] 27 (0, 0)) (by (with_reducible repeat (first | refine blk_drewN ?_ _ | refine blk_drew ?_ | refine blk_alloc ?_ _)); exact BK675.out) hb); have n3_ := Aside0.mk (blk_below (g := gb682) (o := .cells #[.int .i64 t676, .int .i64 t677, .slice Ao18 t678.length co18] 30 (0, 0)) (by (with_reducible repeat (first | refine blk_drewN ?_ _ | refine blk_drew ?_ | refine blk_alloc ?_ _)); exact BK682.out) hb); have n4_ := Aside0.mk (below_step (by repeat (first | (with_reducible first | exact HB.out | apply below_alloc | apply pw_below_drewN | apply below_drew1 | refine below_set ?_ GE675.out | refine below_set ?_ GE682.out) | exact HB.out)) hb); clear HO_676002; clear HO_683002; clear BK675; clear BK682; clear HB; have HO_676002 := n0_; have HO_683002 := n1_; have BK675 := n2_; have BK682 := n3_; have HB := n4_; clear n0_ n1_ n2_ n3_ n4_; (try clear hb); (try clear hb2); (try clear hk); (try clear hi)))
       go_ret
       exact ⟨by first | rfl | (simp [errW_none, errW_some] <;> rfl) | (simp [*, errW_none, errW_some] <;> rfl), by repeat (first | (with_reducible first | exact HB.out | apply below_alloc | apply pw_below_drewN | apply below_drew1 | refine below_set ?_ GE675.out | refine below_set ?_ GE682.out) | exact HB.out)⟩
     ·
      rw [if_neg c52] at H
      have c52b0 : (t681 == 0) = false := beq_eq_false_iff_ne.mpr c52
      have c52b1 : (t681 != 0) = true := bne_iff_ne.mpr c52
      by_cases c74 : t676 = 0
      ·
       rw [if_pos c74] at H
       have c74b0 : (t676 == 0) = true := beq_iff_eq.mpr c74
       have c74b1 : (t676 != 0) = false := bne_eq_false_iff_eq.mpr c74
       clear c74
       by_cases c75 : t677 = 0
       ·
        rw [if_pos c75] at H
        have c75b0 : (t677 == 0) = true := beq_iff_eq.mpr c75
        have c75b1 : (t677 != 0) = false := bne_eq_false_iff_eq.mpr c75
        clear c75
        obtain rfl := Option.some.inj H
        have hnb76 := NB682_675.out
        have hnc76 := NB675_682.out
        have hcz77_0 : wc.cell? ⟨gb682, 0, none⟩ = some (.int .i64 t676) := (blk_cell BK682.out 0).trans rfl
        have hcz77_1 : wc.cell? ⟨gb682, 1, none⟩ = some (.int .i64 t677) := (blk_cell BK682.out 1).trans rfl
        have hcz77_2 : wc.cell? ⟨gb682, 2, none⟩ = some (.slice Ao18 t678.length co18) := (blk_cell BK682.out 2).trans rfl
        have hfz77_0 := blk_frozen BK682.out 0
        have hfz77_1 := blk_frozen BK682.out 1
        have hfz77_2 := blk_frozen BK682.out 2
        go_wp2
        go_ret
        exact ⟨by first | rfl | (simp [errW_none, errW_some] <;> rfl) | (simp [*, errW_none, errW_some] <;> rfl), by repeat (first | (with_reducible first | exact HB.out | apply below_alloc | apply pw_below_drewN | apply below_drew1 | refine below_set ?_ GE675.out | refine below_set ?_ GE682.out) | exact HB.out)⟩
       ·
        rw [if_neg c75] at H
        have c75b0 : (t677 == 0) = false := beq_eq_false_iff_ne.mpr c75
        have c75b1 : (t677 != 0) = true := bne_iff_ne.mpr c75
        obtain rfl := Option.some.inj H
        have hnb78 := NB682_675.out
        have hnc78 := NB675_682.out
        have hcz79_0 : wc.cell? ⟨gb682, 0, none⟩ = some (.int .i64 t676) := (blk_cell BK682.out 0).trans rfl
        have hcz79_1 : wc.cell? ⟨gb682, 1, none⟩ = some (.int .i64 t677) := (blk_cell BK682.out 1).trans rfl
        have hcz79_2 : wc.cell? ⟨gb682, 2, none⟩ = some (.slice Ao18 t678.length co18) := (blk_cell BK682.out 2).trans rfl
        have hfz79_0 := blk_frozen BK682.out 0
        have hfz79_1 := blk_frozen BK682.out 1
        have hfz79_2 := blk_frozen BK682.out 2
        go_wp2
        go_ret
        exact ⟨by first | rfl | (simp [errW_none, errW_some] <;> rfl) | (simp [*, errW_none, errW_some] <;> rfl), by repeat (first | (with_reducible first | exact HB.out | apply below_alloc | apply pw_below_drewN | apply below_drew1 | refine below_set ?_ GE675.out | refine below_set ?_ GE682.out) | exact HB.out)⟩
      ·
       rw [if_neg c74] at H
       have c74b0 : (t676 == 0) = false := beq_eq_false_iff_ne.mpr c74
       have c74b1 : (t676 != 0) = true := bne_iff_ne.mpr c74
       obtain rfl := Option.some.inj H
       have hnb80 := NB682_675.out
       have hnc80 := NB675_682.out
       have hcz81_0 : wc.cell? ⟨gb682, 0, none⟩ = some (.int .i64 t676) := (blk_cell BK682.out 0).trans rfl
       have hcz81_1 : wc.cell? ⟨gb682, 1, none⟩ = some (.int .i64 t677) := (blk_cell BK682.out 1).trans rfl
       have hcz81_2 : wc.cell? ⟨gb682, 2, none⟩ = some (.slice Ao18 t678.length co18) := (blk_cell BK682.out 2).trans rfl
       have hfz81_0 := blk_frozen BK682.out 0
       have hfz81_1 := blk_frozen BK682.out 1
       have hfz81_2 := blk_frozen BK682.out 2
       go_wp2
       go_ret
       exact ⟨by first | rfl | (simp [errW_none, errW_some] <;> rfl) | (simp [*, errW_none, errW_some] <;> rfl), by repeat (first | (with_reducible first | exact HB.out | apply below_alloc | apply pw_below_drewN | apply below_drew1 | refine below_set ?_ GE675.out | refine below_set ?_ GE682.out) | exact HB.out)⟩
 ·
  replace c3 := Bool.eq_false_iff.mpr c3
  subst c3
  have H1 : (some false) = some r := by rw [if_neg (show ¬ (false = true) by decide)] at H; exact H
  clear H
  have H := H1
  clear H1
  obtain rfl := Option.some.inj H
  go_enter Tryz.func8, Tryz.ntmps8
  go_wp2_with (first | ((with_reducible refine gate_callee (f := 9) rfl ?_); refine goesL_ (some 11) rfl rfl Tryz.func9 (by kernel_rfl) rfl #[] rfl (by (try simp only [List.map_toArray, List.map_cons, List.map_nil]); first | done | rfl | (simp only [List.length_drop, List.length_take]; rfl)) ?_; (with_reducible refine (annuitantlaw36_awake.calls k  false _ ?side1 A2.out).mono ?_); (case side1 => exact GG.below HG.out (by repeat (first | (with_reducible first | exact HB.out | apply below_alloc | apply pw_below_drewN | apply below_drew1) | exact HB.out))); rintro e w82 ⟨rfl, hb⟩; refine ⟨_, rfl, ?_⟩; have n0_ := Aside0.mk (below_step (by repeat (first | (with_reducible first | exact HB.out | apply below_alloc | apply pw_below_drewN | apply below_drew1) | exact HB.out)) hb); clear HB; have HB := n0_; clear n0_; (try clear hb); (try clear hb2); (try clear hk); (try clear hi)))
  go_ret
  exact ⟨by first | rfl | (simp [errW_none, errW_some] <;> rfl) | (simp [*, errW_none, errW_some] <;> rfl), by repeat (first | (with_reducible first | exact HB.out | apply below_alloc | apply pw_below_drewN | apply below_drew1) | exact HB.out)⟩
end Go.Proofs.YtndojpcjhkncgaaGreatDoor.Q
end

section
namespace Go.Proofs.YtndojpcjhkncgaaGreatDoor.Q
open Go.RowKit Go.Proofs.YtndojpcjhkncgaaGreatDoorW.PrintWords
set_option linter.unusedVariables false
set_option linter.unusedSimpArgs false
theorem only_ev (t : List UInt8) (h : t.length ≤ 4611686018427387904) : Ev (fun k => annuitantlaw36_BankOnly.f k (B t)) true := by
  unfold annuitantlaw36_BankOnly.f
  refine Ev.bind awake_ev (Ev.pos rfl ?_)
  by_cases hs : ((B t).size : Int) > 3000
  · exact Ev.pos hs (Ev.now true)
  refine Ev.neg hs (Ev.bind (Read_ev t h) (Ev.bind (ReadAnswer_ev t h) ?_))
  rcases hf : fileR t with ⟨n, d, L, e⟩
  rcases ha : answerR t with ⟨n2, d2, R, g⟩
  have hj : Ev (fun k => annuitantlaw36_BankOnly.j0 k (B t) e g n2 d2 R) true := by
    refine Ev.step (fun k => by rw [annuitantlaw36_BankOnly.j0]) ?_
    by_cases hg : g = 0
    · subst hg
      obtain ⟨v, ht, _⟩ := answerR_zero t n2 d2 R ha
      obtain ⟨_, _, hl⟩ := right_parts v
      have hw := WriteAnswer_ev n2 d2 R (by omega)
      unfold answerS at hw
      rw [if_pos v] at hw
      have hr := Right_ev n2 d2 R (by omega)
      rw [v] at hr
      have he : e ≠ 0 := by
        rintro rfl
        obtain ⟨v2, ht2, _⟩ := fileR_zero t n d L hf
        rw [ht2, answerR_file n d L v2] at ha
        cases ha
      refine Ev.pos rfl (Ev.bind hw (Ev.pos rfl (Ev.pos (by rw [← ht]) (Ev.bind hr (Ev.pos rfl (Ev.ret (by simpa using he)))))))
    · obtain ⟨rfl, rfl, rfl⟩ := answerR_else t n2 d2 R g ha hg
      exact Ev.neg hg (Ev.pos rfl (Ev.pos rfl (Ev.ret rfl)))
  by_cases he : e = 0
  · subst he
    obtain ⟨v, ht, _⟩ := fileR_zero t n d L hf
    obtain ⟨_, hl, _⟩ := valid_orders v
    have hw := Write_ev n d L (by omega)
    unfold writeS at hw
    rw [if_pos v] at hw
    have hr := Valid_ev n d L (by omega)
    rw [v] at hr
    exact Ev.pos rfl (Ev.bind hw (Ev.pos rfl (Ev.pos (by rw [← ht]) (Ev.bind hr (Ev.pos rfl hj)))))
  · obtain ⟨rfl, rfl, rfl⟩ := fileR_else t n d L e hf he
    exact Ev.neg he (Ev.pos rfl (Ev.pos rfl (Ev.neg (by simp) hj)))
end Go.Proofs.YtndojpcjhkncgaaGreatDoor.Q
end

section
namespace Go.Proofs.YtndojpcjhkncgaaGreatDoor.Q
open Go Go.RowKit Go.Deep Go.Proofs.YtndojpcjhkncgaaGreatDoorW.PrintWords Go.Proofs.YtndojpcjhkncgaaGreatDoorW.PrintLast
set_option linter.unusedVariables false
set_option linter.unusedSimpArgs false
def Opens (P : Program) (t : TypeId) {α : Type} (d : Kd α) (S : α → Prop) : Prop :=
  ∀ {H : Type} {enc : TypeId × Value → H} {W : World} {fuel : Nat} {cs : List Value} {x : DataW H × List MemPlace},
    DataW.trod enc P W 0 (fun _ => true) true fuel t cs = some x → (x.1.weights P t).all (· ≤ reachBytes) = true → ∃ a, d.K W a cs ∧ S a
variable {P : Program} {t : TypeId}
theorem opens_string (ht : P.underlying t = some .string) : Opens P t Kd.string (fun s => s.size ≤ reachBytes) := by
  intro H enc W fuel cs x h hs
  obtain ⟨s, rfl, rfl, _⟩ := DataW.trod_string ht h
  refine ⟨s, rfl, ?_⟩
  simpa [DataW.weights] using hs
theorem open_arg {H : Type} {enc : TypeId × Value → H} {W : World} {α : Type} {d : Kd α} {S : α → Prop} {v : Value} {x : DataW H} {p : List MemPlace} (h : Opens P t d S) (hx : DataW.Trod enc P W 0 (fun _ => true) true t v x p) (hs : (x.weights P t).all (· ≤ reachBytes) = true) :
    ∃ a, d.K W a v.cells.toList ∧ S a := by
  obtain ⟨fuel, hf⟩ := hx
  exact h hf hs
theorem arg_lt {H : Type} {enc : TypeId × Value → H} {W : World} {v : Value} {x : DataW H} {p : List MemPlace} (hx : DataW.Trod enc P W 0 (fun _ => true) true t v x p) : ∀ y ∈ p, y.block < W.heap.size := by
  obtain ⟨m, hm⟩ := hx
  exact DataW.trod_lt m _ _ _ hm
theorem weights_at {H : Type} {ts : List TypeId} {ds : List (DataW H)} {j : Nat} {d : DataW H} (h : (DataW.weightsEach P ts ds).all (· ≤ reachBytes) = true) (ht : ts[j]? = some t) (hd : ds[j]? = some d) : (d.weights P t).all (· ≤ reachBytes) = true := by
  rw [List.all_eq_true] at h ⊢
  intro n hn
  exact h n (DataW.weights_mem_each ht hd n hn)
end Go.Proofs.YtndojpcjhkncgaaGreatDoor.Q
end

section
/- The arguments of the laws on files and answers, opened. -/
end

section
namespace Go.Proofs.YtndojpcjhkncgaaGreatDoor.Q
open Go Go.RowKit
set_option linter.unusedVariables false
set_option linter.unusedSimpArgs false
def laidAll : List (String × DataW Unit) := [("math/bits.deBruijn32tab", Rows.laid_math_bits_deBruijn32tab), ("math/bits.deBruijn64tab", Rows.laid_math_bits_deBruijn64tab), ("internal/strconv.uint64pow10", Rows.laid_internal_strconv_uint64pow10), ("unicode/utf8.acceptRanges", Rows.laid_unicode_utf8_acceptRanges), ("strconv.ErrRange", Rows.laid_strconv_ErrRange), ("strconv.ErrSyntax", Rows.laid_strconv_ErrSyntax), ("unicode/utf8.first", Rows.laid_unicode_utf8_first)]
theorem laid_pow : Rows.laid_internal_strconv_uint64pow10 (H := Unit) = Lib.tabData .u64 Lib.pow10Tab := by kernel_rfl
theorem laid_low : Rows.laid_math_bits_deBruijn64tab (H := Unit) = Lib.tabData .u8 (Lib.deBruijn64tab.map fun (n : Nat) => (n : Int)) := by kernel_rfl
theorem row_err (u : TypeId) (h : Tryz.prog.typeName? 3 u = some "*errors.errorString") : u = 185 :=
  typeName_ptr_named (nm := "errors.errorString") (by kernel_rfl) (by kernel_rfl) (by decide) u h
theorem var_cell {w : World} {n : String} {g : Nat} {v : Value} (hg : Tryz.prog.globalNamed n = some g) (h : w.var? Tryz.prog n = some #[v]) : w.cell? ⟨g, 0, none⟩ = some v := by
  simpa using World.var?_cell hg h 0
theorem gg_of_laid {W : World} (h : laidMetH Tryz.prog laidAll W) (hs : W.ShapedOpen Tryz.prog) : GG W := by
  rw [MakeChecks.laidMetH_plain _ _ _ (by kernel_rfl)] at h
  have h1 := h.tail
  have h2 := h1.tail
  have h4 := h2.tail.tail
  have h5 := h4.tail
  rw [laid_low] at h1
  rw [laid_pow] at h2
  refine ⟨Lib.tabIs_of_head (P := Tryz.prog) (t := 163) (e := 127) (n := 20) named_pow (by kernel_rfl) (by kernel_rfl) (by kernel_rfl) (by kernel_rfl) (by kernel_rfl) h2, Lib.tabIs_of_head (P := Tryz.prog) (t := 189) (e := 5) (n := 64) named_low (by kernel_rfl) (by kernel_rfl) (by kernel_rfl) (by kernel_rfl) (by kernel_rfl) h1, ?_, ?_, ?_⟩
  · obtain ⟨a, s, hv, _⟩ := laid_sentinel h5 (show Tryz.prog.globalNamed "strconv.ErrSyntax" = some 2 by kernel_rfl) (show _ = some 102 by kernel_rfl) Tryz.underlying102 row_err Tryz.underlying185 Tryz.underlying187 rfl rfl Tryz.underlying9 (by kernel_rfl) (by kernel_rfl)
    exact ⟨_, var_cell (by kernel_rfl) hv, .inr ⟨_, _, rfl⟩⟩
  · obtain ⟨a, s, hv, _⟩ := laid_sentinel h4 (show Tryz.prog.globalNamed "strconv.ErrRange" = some 3 by kernel_rfl) (show _ = some 102 by kernel_rfl) Tryz.underlying102 row_err Tryz.underlying185 Tryz.underlying187 rfl rfl Tryz.underlying9 (by kernel_rfl) (by kernel_rfl)
    exact ⟨_, var_cell (by kernel_rfl) hv, .inr ⟨_, _, rfl⟩⟩
  · exact cell_of_shapedOpen_int (g := 1) (t := 3) (zero := #[.int .i64 0]) hs (of_decide_eq_true (by kernel_rfl)) (by kernel_rfl) rfl (by kernel_rfl) (by kernel_rfl) Tryz.underlying3
def firstCells : Array Value := (match Rows.laid_unicode_utf8_first with
  | .agg ds => ds.map fun (d : DataW Unit) => match d with
    | .lit (.int k n) => Value.int k n
    | _ => .nilIface
  | _ => []).toArray
noncomputable def doorZ (os : Os) : World :=
  { World.doorLaid Tryz.prog 72 os with heap := (World.doorLaid Tryz.prog 72 os).heap.modify 4 fun
      | .cells _ t fz => .cells firstCells t fz
      | o => o }
theorem door_met (os : Os) (args : Array Value) : laidMetH Tryz.prog laidAll ((doorZ os).forCall (fun _ _ => 0) ⟨#[], args, []⟩).memory :=
  laidMetH_of_parts3 (fuel := 8) (laidMet_of_run' 8 (by kernel_rfl) (by kernel_rfl)) (by kernel_rfl) (by kernel_rfl)
theorem own : ownKnob Tryz.prog.godebug = none := by kernel_rfl
theorem laidOut : laidOutB Tryz.prog = true := by kernel_rfl
end Go.Proofs.YtndojpcjhkncgaaGreatDoor.Q
end
