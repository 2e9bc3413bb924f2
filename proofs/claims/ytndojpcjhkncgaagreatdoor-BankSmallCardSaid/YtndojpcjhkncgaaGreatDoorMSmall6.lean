/- Part 6 of a proof: the texts QFlaw36writes, HRowN, SWrt, HSmall, SSmall, Open, OpenB, LaidZ, put together by a program of this repo. -/
import Derived.ProofKit
import Derived.SizedLaws
import Derived.Deep.Slices
import Derived.OpenShut
import Derived.Test.YtndojpcjhkncgaaGreatDoorRows
import Derived.Lib.LaidTab
import Derived.LaidMore
import Derived.LaidHandle
import Derived.MakeChecks
import Derived.Stop.LaidErr
import Derived.Shelf.Vars
import Derived.Test.YtndojpcjhkncgaaGreatDoorMSmall1
import Derived.Test.YtndojpcjhkncgaaGreatDoorMSmall4
import Derived.Test.YtndojpcjhkncgaaGreatDoorMSmall5
import Derived.Test.YtndojpcjhkncgaaGreatDoorMSmall2
import Derived.Test.YtndojpcjhkncgaaGreatDoorMSmall3
set_option linter.unusedVariables false
set_option linter.unusedSimpArgs false
section
namespace Go.Proofs.YtndojpcjhkncgaaGreatDoor.Q
open Go.RowKit Go.Proofs.YtndojpcjhkncgaaGreatDoorW.PrintWords Go.Proofs.YtndojpcjhkncgaaGreatDoorW.PrintLast Go.Proofs.YtndojpcjhkncgaaGreatDoorW.PrintMore
section
def aL_writes.f (k : Nat) (a0_0 : Int) (a0_1 : Int) (l0_2 : List (S47)) (a1_0 : Int) (a1_1 : Int) (l1_2 : List (S49)) : Option (Bool) := (aL_plain.f a0_0 a0_1 l0_2).bind fun bt425 => ((aL_old.f k a1_0 a1_1 l1_2).bind fun bt430 => ((bank_Total.f k a0_0 a0_1 l0_2).bind fun bt437 => ((aR_Total.f k bt425.1 bt425.2.1 bt425.2.2).bind fun bt439 => ((bank_Write.f k a0_0 a0_1 l0_2).bind fun bt441 => ((aR_Write.f k bt425.1 bt425.2.1 bt425.2.2).bind fun bt443 => ((bank_WriteAnswer.f k a1_0 a1_1 l1_2).bind fun bt445 => ((aR_WriteAnswer.f k bt430.1 bt430.2.1 bt430.2.2).bind fun bt447 => ((bank_Match.f k a0_0 a0_1 l0_2 a1_0 a1_1 l1_2).bind fun bt449 => ((aR_Match.f k bt425.1 bt425.2.1 bt425.2.2 bt430.1 bt430.2.1 bt430.2.2).bind fun bt453 => (if bt437.1 = bt439.1 then (if bt437.2 = bt439.2 then (if bt441.1.toList = bt443.1.toList then (if bt441.2 = bt443.2 then (if bt445.1.toList = bt447.1.toList then (if bt445.2 = bt447.2 then ((aL_sameOrders.f k bt449.1 bt453.1).bind fun t457 => (if t457 = true then (if bt449.2 = bt453.2 then ((bank_Valid.f k a0_0 a0_1 l0_2).bind fun t458 => ((aR_Valid.f k bt425.1 bt425.2.1 bt425.2.2).bind fun t459 => (if (t458 == t459) = true then ((bank_Right.f k a1_0 a1_1 l1_2).bind fun t460 => ((aR_Right.f k bt430.1 bt430.2.1 bt430.2.2).bind fun t461 => (some (t460 == t461)))) else (none)))) else (none)) else (none))) else (none)) else (none)) else (none)) else (none)) else (none)) else (none)))))))))))
def aL_writes.T1 : Bool × List (List Nat × List Nat) := (true, [([], []), ([0], [0]), ([], []), ([2, 1], [2]), ([], []), ([], []), ([4, 1, 3, 0, 1, 4, 5], [1, 4]), ([5, 3, 6, 0, 1, 2, 3, 4, 5, 6], [3, 5])])
def aL_writes.B1 : List Nat := [0, 1, 0, 7, 0, 0, 63, 127]
theorem aL_writes.tab1 : rtab .any (opsOf Tryz.f18 1) = aL_writes.T1 := by kernel_rfl
theorem aL_writes.bits1 : waitsOk aL_writes.T1.2 aL_writes.B1 = true := by kernel_rfl
def aL_writes.T10 : Bool × List (List Nat × List Nat) := (true, [([], []), ([], []), ([0, 1], [0, 1]), ([2], [2]), ([3], [3]), ([3], [3]), ([4, 5, 3], [3, 4, 5]), ([3, 6], [3, 6]), ([7, 3], [7]), ([8], [8]), ([8], [8]), ([9, 10, 8], [8, 9, 10]), ([8, 11], [8, 11]), ([12, 8], [12]), ([13], [13]), ([13], [13]), ([14, 15, 13], [13, 14, 15]), ([13, 16], [13, 16]), ([17, 13], [17]), ([18], [18]), ([18], [18]), ([19, 20, 18], [18, 19, 20]), ([18, 21], [18, 21]), ([22, 18], [22]), ([23], [23]), ([23], [23]), ([24, 25, 23], [23, 24, 25]), ([23, 26], [23, 26]), ([27, 23], [27]), ([28], [28]), ([28], [28]), ([29, 30, 28, 28], [28, 29, 30]), ([28, 31], [28, 31]), ([32, 31], [32]), ([33], [33]), ([33], [33]), ([34, 35, 33], [33, 34, 35]), ([33, 36], [33, 36]), ([37, 33], [37]), ([38], [38]), ([39, 38, 38], [38, 39]), ([38], [38]), ([41, 40, 38], [38, 41]), ([40, 42, 38], [38, 40, 42]), ([38, 43], [38, 43]), ([44, 42], [44]), ([45], [45]), ([46, 45, 45], [45, 46]), ([45], [45]), ([48, 47, 45], [45, 48]), ([47, 49, 45], [45, 47, 49]), ([45, 50], [45, 50]), ([51, 49, 0, 1, 2, 3, 4, 5, 6, 7, 8, 9, 10, 11, 12, 13, 14, 15, 16, 17, 18, 19, 20, 21, 22, 23, 24, 25, 26, 27, 28, 29, 30, 31, 32, 33, 34, 35, 36, 37, 38, 39, 40, 41, 42, 43, 44, 45, 46, 47, 48, 49, 50, 51], [51])])
def aL_writes.B10 : List Nat := [0, 0, 3, 7, 15, 15, 63, 127, 255, 511, 511, 2047, 4095, 8191, 16383, 16383, 65535, 131071, 262143, 524287, 524287, 2097151, 4194303, 8388607, 16777215, 16777215, 67108863, 134217727, 268435455, 536870911, 536870911, 2147483647, 4294967295, 8589934591, 17179869183, 17179869183, 68719476735, 137438953471, 274877906943, 549755813887, 1099511627775, 549755813887, 4398046511103, 8796093022207, 17592186044415, 35184372088831, 70368744177663, 140737488355327, 70368744177663, 562949953421311, 1125899906842623, 2251799813685247, 4503599627370495]
theorem aL_writes.tab10 : rtab .any (opsOf Tryz.f18 10) = aL_writes.T10 := by kernel_rfl
theorem aL_writes.bits10 : waitsOk aL_writes.T10.2 aL_writes.B10 = true := by kernel_rfl
set_option maxHeartbeats 8000000 in
set_option maxRecDepth 100000 in
theorem aL_writes.calls (k : Nat) (a0_0 : Int) (a0_1 : Int) (A0_2 : Option Addr) (c0_2 : Nat) (l0_2 : List (S47)) (a1_0 : Int) (a1_1 : Int) (A1_2 : Option Addr) (c1_2 : Nat) (l1_2 : List (S49)) (r : Bool) (w : World) (hr0_2 : Kd.C k47 w A0_2 l0_2.length l0_2) (hc0_2 : l0_2.length ≤ c0_2) (hr1_2 : Kd.C k49 w A1_2 l1_2.length l1_2) (hc1_2 : l1_2.length ≤ c1_2) (hG : GG w) (h : aL_writes.f k a0_0 a0_1 l0_2 a1_0 a1_1 l1_2 = some r) :
  Calls Tryz.prog 18 #[.agg #[.int .i64 a0_0, .int .i64 a0_1, .slice A0_2 l0_2.length c0_2], .agg #[.int .i64 a1_0, .int .i64 a1_1, .slice A1_2 l1_2.length c1_2]] w fun e w' => e = .returned (.bool r) ∧ Below w.heap.size w w' := by
 have hu27 := Tryz.underlying27; have hu30 := Tryz.underlying30; have hu36 := Tryz.underlying36; have hu41 := Tryz.underlying41; have HG := Zs.mk hG; clear hG; have HR0_2 := Zs.mk hr0_2; have HC0_2 := Zs.mk hc0_2; clear hr0_2 hc0_2; have HR1_2 := Zs.mk hr1_2; have HC1_2 := Zs.mk hc1_2; clear hr1_2 hc1_2; have HB := Zs.mk (Below.refl w.heap.size w); have H : ((aL_plain.f a0_0 a0_1 l0_2).bind fun bt425 => ((aL_old.f k a1_0 a1_1 l1_2).bind fun bt430 => ((bank_Total.f k a0_0 a0_1 l0_2).bind fun bt437 => ((aR_Total.f k bt425.1 bt425.2.1 bt425.2.2).bind fun bt439 => ((bank_Write.f k a0_0 a0_1 l0_2).bind fun bt441 => ((aR_Write.f k bt425.1 bt425.2.1 bt425.2.2).bind fun bt443 => ((bank_WriteAnswer.f k a1_0 a1_1 l1_2).bind fun bt445 => ((aR_WriteAnswer.f k bt430.1 bt430.2.1 bt430.2.2).bind fun bt447 => ((bank_Match.f k a0_0 a0_1 l0_2 a1_0 a1_1 l1_2).bind fun bt449 => ((aR_Match.f k bt425.1 bt425.2.1 bt425.2.2 bt430.1 bt430.2.1 bt430.2.2).bind fun bt453 => (if bt437.1 = bt439.1 then (if bt437.2 = bt439.2 then (if bt441.1.toList = bt443.1.toList then (if bt441.2 = bt443.2 then (if bt445.1.toList = bt447.1.toList then (if bt445.2 = bt447.2 then ((aL_sameOrders.f k bt449.1 bt453.1).bind fun t457 => (if t457 = true then (if bt449.2 = bt453.2 then ((bank_Valid.f k a0_0 a0_1 l0_2).bind fun t458 => ((aR_Valid.f k bt425.1 bt425.2.1 bt425.2.2).bind fun t459 => (if (t458 == t459) = true then ((bank_Right.f k a1_0 a1_1 l1_2).bind fun t460 => ((aR_Right.f k bt430.1 bt430.2.1 bt430.2.2).bind fun t461 => (some (t460 == t461)))) else (none)))) else (none)) else (none))) else (none)) else (none)) else (none)) else (none)) else (none)) else (none)))))))))))) = some r := h; clear h; obtain ⟨⟨t425, t426, t427⟩, A3, H⟩ := zb H; (try dsimp only [-Int.reduceToNat] at H); obtain ⟨⟨t430, t431, t432⟩, A4, H⟩ := zb H; (try dsimp only [-Int.reduceToNat] at H); obtain ⟨⟨t437, t438⟩, A5, H⟩ := zb H; (try dsimp only [-Int.reduceToNat] at H); obtain ⟨⟨t439, t440⟩, A6, H⟩ := zb H; (try dsimp only [-Int.reduceToNat] at H); obtain ⟨⟨t441, t442⟩, A7, H⟩ := zb H; (try dsimp only [-Int.reduceToNat] at H); obtain ⟨⟨t443, t444⟩, A8, H⟩ := zb H; (try dsimp only [-Int.reduceToNat] at H); obtain ⟨⟨t445, t446⟩, A9, H⟩ := zb H; (try dsimp only [-Int.reduceToNat] at H); obtain ⟨⟨t447, t448⟩, A10, H⟩ := zb H; (try dsimp only [-Int.reduceToNat] at H); obtain ⟨⟨t449, t452⟩, A11, H⟩ := zb H; (try dsimp only [-Int.reduceToNat] at H); obtain ⟨⟨t453, t456⟩, A12, H⟩ := zb H; (try dsimp only [-Int.reduceToNat] at H)
 have c13 := zc H
 rw [if_pos c13] at H
 obtain ⟨c13b0, c13b1⟩ := zeq c13; clear c13
 have c14 := zc H
 rw [if_pos c14] at H
 obtain ⟨c14b0, c14b1⟩ := zeq c14; clear c14
 have c15 := zc H
 rw [if_pos c15] at H
 obtain ⟨c15b0, c15b1⟩ := zeq c15; clear c15
 have c16 := zc H
 rw [if_pos c16] at H
 obtain ⟨c16b0, c16b1⟩ := zeq c16; clear c16
 have c17 := zc H
 rw [if_pos c17] at H
 obtain ⟨c17b0, c17b1⟩ := zeq c17; clear c17
 have c18 := zc H
 rw [if_pos c18] at H
 obtain ⟨c18b0, c18b1⟩ := zeq c18; clear c18; obtain ⟨t457, A19, H⟩ := zb H; (try dsimp only [-Int.reduceToNat] at H)
 by_cases c20 : t457 = true
 ·
  subst c20
  rw [if_pos rfl] at H
  have c21 := zc H
  rw [if_pos c21] at H
  obtain ⟨c21b0, c21b1⟩ := zeq c21; clear c21; obtain ⟨t458, A22, H⟩ := zb H; (try dsimp only [-Int.reduceToNat] at H); obtain ⟨t459, A23, H⟩ := zb H; (try dsimp only [-Int.reduceToNat] at H)
  have c24 := zc H
  rw [if_pos c24] at H
  have c24b0 : (t458 == t459) = true := c24
  (try (have c24b1 : decide (t458 = t459) = true := by simpa using c24))
  (try (have c24b2 : (t458 == t459) = true := by simpa using c24))
  clear c24; obtain ⟨t460, A25, H⟩ := zb H; (try dsimp only [-Int.reduceToNat] at H); replace H := Option.bind_eq_some_iff.mp H; obtain ⟨t461, A260, H⟩ := H; replace H : (some (t460 == t461)) = some r := H; have A26 := Zs.mk A260; clear A260; obtain rfl := Option.some.inj H
  go_enter Tryz.func18, Tryz.ntmps18
  try go_wp2_with (first | ((with_reducible refine gkd (N := 2) rfl ?_); refine bxe ?hg (N := 2) ?hd (cs := #[.int .i64 a0_0, .int .i64 a0_1, .slice A0_2 l0_2.length c0_2]) (t := 27) ?hr ?_; (case hd => rfl); (case hg => rfl); (case hr => first | (go_simp; done) | (go_simp; rfl)); intro gb423 hg w27 hbox hb; have BK423 := Zs.mk (hbox); have GW423 := zG (w := w) hg; have GE423 := zG (w := w) hg; replace HB := zBs hb; clear hb hbox hg) | ((with_reducible refine gkd (N := 3) rfl ?_); refine bxe ?hg (N := 3) ?hd (cs := #[.int .i64 a1_0, .int .i64 a1_1, .slice A1_2 l1_2.length c1_2]) (t := 30) ?hr ?_; (case hd => rfl); (case hg => rfl); (case hr => first | (go_simp; done) | (go_simp; rfl)); intro gb424 hg w28 hbox hb; have BK424 := Zs.mk (hbox); have GW424 := zG (w := w) hg; have GE424 := zG (w := w) hg; replace HB := zBs hb; have NB423_424 := zN hg (zK BK423); have NB424_423 := zM hg (zK BK423); replace BK423 := zKb BK423 hb; clear hb hbox hg))
  replace BK423 := Zs.mk (blk_drew BK423.out); replace BK424 := Zs.mk (blk_drew BK424.out); replace HB := Zs.mk (below_drew1 HB.out); 
  refine start_ (n := 8) (S := fun w' => w'.cell? ⟨gb423, 0, none⟩ = some (.int .i64 a0_0) ∧ w'.cell? ⟨gb423, 1, none⟩ = some (.int .i64 a0_1) ∧ w'.cell? ⟨gb423, 2, none⟩ = some (.slice A0_2 l0_2.length c0_2) ∧ w'.cell? ⟨gb424, 0, none⟩ = some (.int .i64 a1_0) ∧ w'.cell? ⟨gb424, 1, none⟩ = some (.int .i64 a1_1) ∧ w'.cell? ⟨gb424, 2, none⟩ = some (.slice A1_2 l1_2.length c1_2)) (ds := []) (zo 8) (by kernel_rfl) rfl rfl (zJ3 (zC3 BK423) (zC3 BK424)) (fun hHeld => ?_); refine with_tabW aL_writes.tab1 aL_writes.bits1 (fun HT_ HW_ => ?_)
  generalize w28.drew = w29 at BK423 BK424 HB hHeld ⊢
  refine take_ (i := 0) (N := some 23) (v := ?_) (a' := ?_) (zm 8 1) rfl rfl (take_ofW HT_.out HW_.out (by kernel_rfl)) (fun _ _ _ h => h) (Or.inl ⟨by rfl, ?_⟩) hHeld ?_ ?_
  rotate_left
  ·
   rintro w' ⟨s0, s1, s2, s3, s4, s5⟩
   go_simp
   with_reducible rfl
  rotate_left
  · simp only [Act.put, z1, z2, z3, i64_w, i32_w]; rfl
  refine take_ (i := 2) (N := some 25) (v := ?_) (a' := ?_) (zm 8 5) rfl rfl (take_ofW HT_.out HW_.out (by kernel_rfl)) (fun _ _ _ h => h) (Or.inl ⟨by rfl, ?_⟩) hHeld ?_ ?_
  rotate_left
  ·
   rintro w' ⟨s0, s1, s2, s3, s4, s5⟩
   go_simp
   with_reducible rfl
  rotate_left
  · simp only [Act.put, z1, z2, z3, i64_w, i32_w]; rfl
  refine join_ (σ := Value × Value × Nat × Nat) 2 (zm 8 63) (fun s_ => [(24, .agg #[.int .i64 t425, .int .i64 t426, s_.1]), (26, .agg #[.int .i64 t430, .int .i64 t431, s_.2.1]), (5, .pointer (some ⟨s_.2.2.1, 0, none⟩)), (6, .pointer (some ⟨s_.2.2.2, 0, none⟩))]) (fun s_ w' => (w'.cell? ⟨gb423, 0, none⟩ = some (.int .i64 a0_0) ∧ w'.cell? ⟨gb423, 1, none⟩ = some (.int .i64 a0_1) ∧ w'.cell? ⟨gb423, 2, none⟩ = some (.slice A0_2 l0_2.length c0_2) ∧ w'.cell? ⟨gb424, 0, none⟩ = some (.int .i64 a1_0) ∧ w'.cell? ⟨gb424, 1, none⟩ = some (.int .i64 a1_1) ∧ w'.cell? ⟨gb424, 2, none⟩ = some (.slice A1_2 l1_2.length c1_2)) ∧ (Kd.V k47 47 w' w.heap.size (fun k_ => some k_ ≠ (s_.2.1 : Value).ownBlock ∧ k_ ≠ gb423 ∧ k_ ≠ gb424 ∧ k_ ≠ s_.2.2.1 ∧ k_ ≠ s_.2.2.2) s_.1 t427) ∧ (Kd.R k78 78 w' w.heap.size (fun _ => True) s_.2.1 t432) ∧ (w'.heap[gb423]? = some (.cells #[.int .i64 a0_0, .int .i64 a0_1, .slice A0_2 l0_2.length c0_2] 27 (0, 0))) ∧ (w'.heap[gb424]? = some (.cells #[.int .i64 a1_0, .int .i64 a1_1, .slice A1_2 l1_2.length c1_2] 30 (0, 0))) ∧ (w'.heap[s_.2.2.1]? = some (.cells #[.int .i64 0, .int .i64 0, .slice none 0 0] 36 (0, 0))) ∧ (w'.heap[s_.2.2.2]? = some (.cells #[.int .i64 0, .int .i64 0, .slice none 0 0] 41 (0, 0))) ∧ (w.heap.size ≤ s_.2.2.1) ∧ (w.heap.size ≤ s_.2.2.1) ∧ (gb423 ≠ s_.2.2.1) ∧ (s_.2.2.1 ≠ gb423) ∧ (gb424 ≠ s_.2.2.1) ∧ (s_.2.2.1 ≠ gb424) ∧ (s_.2.2.2 ≠ s_.2.2.1) ∧ (s_.2.2.1 ≠ s_.2.2.2) ∧ (w.heap.size ≤ s_.2.2.2) ∧ (w.heap.size ≤ s_.2.2.2) ∧ (gb423 ≠ s_.2.2.2) ∧ (s_.2.2.2 ≠ gb423) ∧ (gb424 ≠ s_.2.2.2) ∧ (s_.2.2.2 ≠ gb424) ∧ (Below w.heap.size w w')) ?_ ?_
  rotate_left
  ·
   intro hJ1_3_4_5
   refine join_ (σ := Value × Value × Nat) 3 (zm 8 31) (fun s_ => [(24, .agg #[.int .i64 t425, .int .i64 t426, s_.1]), (26, .agg #[.int .i64 t430, .int .i64 t431, s_.2.1]), (5, .pointer (some ⟨s_.2.2, 0, none⟩))]) (fun s_ w' => (w'.cell? ⟨gb423, 0, none⟩ = some (.int .i64 a0_0) ∧ w'.cell? ⟨gb423, 1, none⟩ = some (.int .i64 a0_1) ∧ w'.cell? ⟨gb423, 2, none⟩ = some (.slice A0_2 l0_2.length c0_2) ∧ w'.cell? ⟨gb424, 0, none⟩ = some (.int .i64 a1_0) ∧ w'.cell? ⟨gb424, 1, none⟩ = some (.int .i64 a1_1) ∧ w'.cell? ⟨gb424, 2, none⟩ = some (.slice A1_2 l1_2.length c1_2)) ∧ (Kd.V k47 47 w' w.heap.size (fun k_ => some k_ ≠ (s_.2.1 : Value).ownBlock ∧ k_ ≠ gb423 ∧ k_ ≠ gb424 ∧ k_ ≠ s_.2.2) s_.1 t427) ∧ (Kd.R k78 78 w' w.heap.size (fun _ => True) s_.2.1 t432) ∧ (w'.heap[gb423]? = some (.cells #[.int .i64 a0_0, .int .i64 a0_1, .slice A0_2 l0_2.length c0_2] 27 (0, 0))) ∧ (w'.heap[gb424]? = some (.cells #[.int .i64 a1_0, .int .i64 a1_1, .slice A1_2 l1_2.length c1_2] 30 (0, 0))) ∧ (w'.heap[s_.2.2]? = some (.cells #[.int .i64 0, .int .i64 0, .slice none 0 0] 36 (0, 0))) ∧ (w.heap.size ≤ s_.2.2) ∧ (w.heap.size ≤ s_.2.2) ∧ (gb423 ≠ s_.2.2) ∧ (s_.2.2 ≠ gb423) ∧ (gb424 ≠ s_.2.2) ∧ (s_.2.2 ≠ gb424) ∧ (Below w.heap.size w w')) ?_ ?_
   rotate_left
   ·
    intro hJ1_3_4
    refine join_ (σ := Value × Value × Nat) 3 (zm 8 47) (fun s_ => [(24, .agg #[.int .i64 t425, .int .i64 t426, s_.1]), (26, .agg #[.int .i64 t430, .int .i64 t431, s_.2.1]), (6, .pointer (some ⟨s_.2.2, 0, none⟩))]) (fun s_ w' => (w'.cell? ⟨gb423, 0, none⟩ = some (.int .i64 a0_0) ∧ w'.cell? ⟨gb423, 1, none⟩ = some (.int .i64 a0_1) ∧ w'.cell? ⟨gb423, 2, none⟩ = some (.slice A0_2 l0_2.length c0_2) ∧ w'.cell? ⟨gb424, 0, none⟩ = some (.int .i64 a1_0) ∧ w'.cell? ⟨gb424, 1, none⟩ = some (.int .i64 a1_1) ∧ w'.cell? ⟨gb424, 2, none⟩ = some (.slice A1_2 l1_2.length c1_2)) ∧ (Kd.V k47 47 w' w.heap.size (fun k_ => some k_ ≠ (s_.2.1 : Value).ownBlock ∧ k_ ≠ gb423 ∧ k_ ≠ gb424 ∧ k_ ≠ s_.2.2) s_.1 t427) ∧ (Kd.R k78 78 w' w.heap.size (fun _ => True) s_.2.1 t432) ∧ (w'.heap[gb423]? = some (.cells #[.int .i64 a0_0, .int .i64 a0_1, .slice A0_2 l0_2.length c0_2] 27 (0, 0))) ∧ (w'.heap[gb424]? = some (.cells #[.int .i64 a1_0, .int .i64 a1_1, .slice A1_2 l1_2.length c1_2] 30 (0, 0))) ∧ (w'.heap[s_.2.2]? = some (.cells #[.int .i64 0, .int .i64 0, .slice none 0 0] 41 (0, 0))) ∧ (w.heap.size ≤ s_.2.2) ∧ (w.heap.size ≤ s_.2.2) ∧ (gb423 ≠ s_.2.2) ∧ (s_.2.2 ≠ gb423) ∧ (gb424 ≠ s_.2.2) ∧ (s_.2.2 ≠ gb424) ∧ (Below w.heap.size w w')) ?_ ?_
    rotate_left
    ·
     intro hJ1_3_5
     refine join_ (σ := Value × Nat × Nat) 3 (zm 8 55) (fun s_ => [(24, .agg #[.int .i64 t425, .int .i64 t426, s_.1]), (5, .pointer (some ⟨s_.2.1, 0, none⟩)), (6, .pointer (some ⟨s_.2.2, 0, none⟩))]) (fun s_ w' => (w'.cell? ⟨gb423, 0, none⟩ = some (.int .i64 a0_0) ∧ w'.cell? ⟨gb423, 1, none⟩ = some (.int .i64 a0_1) ∧ w'.cell? ⟨gb423, 2, none⟩ = some (.slice A0_2 l0_2.length c0_2) ∧ w'.cell? ⟨gb424, 0, none⟩ = some (.int .i64 a1_0) ∧ w'.cell? ⟨gb424, 1, none⟩ = some (.int .i64 a1_1) ∧ w'.cell? ⟨gb424, 2, none⟩ = some (.slice A1_2 l1_2.length c1_2)) ∧ (Kd.V k47 47 w' w.heap.size (fun k_ => k_ ≠ gb423 ∧ k_ ≠ gb424 ∧ k_ ≠ s_.2.1 ∧ k_ ≠ s_.2.2) s_.1 t427) ∧ (w'.heap[gb423]? = some (.cells #[.int .i64 a0_0, .int .i64 a0_1, .slice A0_2 l0_2.length c0_2] 27 (0, 0))) ∧ (w'.heap[gb424]? = some (.cells #[.int .i64 a1_0, .int .i64 a1_1, .slice A1_2 l1_2.length c1_2] 30 (0, 0))) ∧ (w'.heap[s_.2.1]? = some (.cells #[.int .i64 0, .int .i64 0, .slice none 0 0] 36 (0, 0))) ∧ (w'.heap[s_.2.2]? = some (.cells #[.int .i64 0, .int .i64 0, .slice none 0 0] 41 (0, 0))) ∧ (w.heap.size ≤ s_.2.1) ∧ (w.heap.size ≤ s_.2.1) ∧ (gb423 ≠ s_.2.1) ∧ (s_.2.1 ≠ gb423) ∧ (gb424 ≠ s_.2.1) ∧ (s_.2.1 ≠ gb424) ∧ (s_.2.2 ≠ s_.2.1) ∧ (s_.2.1 ≠ s_.2.2) ∧ (w.heap.size ≤ s_.2.2) ∧ (w.heap.size ≤ s_.2.2) ∧ (gb423 ≠ s_.2.2) ∧ (s_.2.2 ≠ gb423) ∧ (gb424 ≠ s_.2.2) ∧ (s_.2.2 ≠ gb424) ∧ (Below w.heap.size w w')) ?_ ?_
     rotate_left
     ·
      intro hJ1_4_5
      refine join_ (σ := Value × Value) 4 (zm 8 15) (fun s_ => [(24, .agg #[.int .i64 t425, .int .i64 t426, s_.1]), (26, .agg #[.int .i64 t430, .int .i64 t431, s_.2])]) (fun s_ w' => (w'.cell? ⟨gb423, 0, none⟩ = some (.int .i64 a0_0) ∧ w'.cell? ⟨gb423, 1, none⟩ = some (.int .i64 a0_1) ∧ w'.cell? ⟨gb423, 2, none⟩ = some (.slice A0_2 l0_2.length c0_2) ∧ w'.cell? ⟨gb424, 0, none⟩ = some (.int .i64 a1_0) ∧ w'.cell? ⟨gb424, 1, none⟩ = some (.int .i64 a1_1) ∧ w'.cell? ⟨gb424, 2, none⟩ = some (.slice A1_2 l1_2.length c1_2)) ∧ (Kd.V k47 47 w' w.heap.size (fun k_ => some k_ ≠ (s_.2 : Value).ownBlock ∧ k_ ≠ gb423 ∧ k_ ≠ gb424) s_.1 t427) ∧ (Kd.R k78 78 w' w.heap.size (fun _ => True) s_.2 t432) ∧ (w'.heap[gb423]? = some (.cells #[.int .i64 a0_0, .int .i64 a0_1, .slice A0_2 l0_2.length c0_2] 27 (0, 0))) ∧ (w'.heap[gb424]? = some (.cells #[.int .i64 a1_0, .int .i64 a1_1, .slice A1_2 l1_2.length c1_2] 30 (0, 0))) ∧ (Below w.heap.size w w')) ?_ ?_
      rotate_left
      ·
       intro hJ1_3
       refine join_ (σ := Value × Nat) 4 (zm 8 23) (fun s_ => [(24, .agg #[.int .i64 t425, .int .i64 t426, s_.1]), (5, .pointer (some ⟨s_.2, 0, none⟩))]) (fun s_ w' => (w'.cell? ⟨gb423, 0, none⟩ = some (.int .i64 a0_0) ∧ w'.cell? ⟨gb423, 1, none⟩ = some (.int .i64 a0_1) ∧ w'.cell? ⟨gb423, 2, none⟩ = some (.slice A0_2 l0_2.length c0_2) ∧ w'.cell? ⟨gb424, 0, none⟩ = some (.int .i64 a1_0) ∧ w'.cell? ⟨gb424, 1, none⟩ = some (.int .i64 a1_1) ∧ w'.cell? ⟨gb424, 2, none⟩ = some (.slice A1_2 l1_2.length c1_2)) ∧ (Kd.V k47 47 w' w.heap.size (fun k_ => k_ ≠ gb423 ∧ k_ ≠ gb424 ∧ k_ ≠ s_.2) s_.1 t427) ∧ (w'.heap[gb423]? = some (.cells #[.int .i64 a0_0, .int .i64 a0_1, .slice A0_2 l0_2.length c0_2] 27 (0, 0))) ∧ (w'.heap[gb424]? = some (.cells #[.int .i64 a1_0, .int .i64 a1_1, .slice A1_2 l1_2.length c1_2] 30 (0, 0))) ∧ (w'.heap[s_.2]? = some (.cells #[.int .i64 0, .int .i64 0, .slice none 0 0] 36 (0, 0))) ∧ (w.heap.size ≤ s_.2) ∧ (w.heap.size ≤ s_.2) ∧ (gb423 ≠ s_.2) ∧ (s_.2 ≠ gb423) ∧ (gb424 ≠ s_.2) ∧ (s_.2 ≠ gb424) ∧ (Below w.heap.size w w')) ?_ ?_
       rotate_left
       ·
        intro hJ1_4
        refine join_ (σ := Value × Nat) 4 (zm 8 39) (fun s_ => [(24, .agg #[.int .i64 t425, .int .i64 t426, s_.1]), (6, .pointer (some ⟨s_.2, 0, none⟩))]) (fun s_ w' => (w'.cell? ⟨gb423, 0, none⟩ = some (.int .i64 a0_0) ∧ w'.cell? ⟨gb423, 1, none⟩ = some (.int .i64 a0_1) ∧ w'.cell? ⟨gb423, 2, none⟩ = some (.slice A0_2 l0_2.length c0_2) ∧ w'.cell? ⟨gb424, 0, none⟩ = some (.int .i64 a1_0) ∧ w'.cell? ⟨gb424, 1, none⟩ = some (.int .i64 a1_1) ∧ w'.cell? ⟨gb424, 2, none⟩ = some (.slice A1_2 l1_2.length c1_2)) ∧ (Kd.V k47 47 w' w.heap.size (fun k_ => k_ ≠ gb423 ∧ k_ ≠ gb424 ∧ k_ ≠ s_.2) s_.1 t427) ∧ (w'.heap[gb423]? = some (.cells #[.int .i64 a0_0, .int .i64 a0_1, .slice A0_2 l0_2.length c0_2] 27 (0, 0))) ∧ (w'.heap[gb424]? = some (.cells #[.int .i64 a1_0, .int .i64 a1_1, .slice A1_2 l1_2.length c1_2] 30 (0, 0))) ∧ (w'.heap[s_.2]? = some (.cells #[.int .i64 0, .int .i64 0, .slice none 0 0] 41 (0, 0))) ∧ (w.heap.size ≤ s_.2) ∧ (w.heap.size ≤ s_.2) ∧ (gb423 ≠ s_.2) ∧ (s_.2 ≠ gb423) ∧ (gb424 ≠ s_.2) ∧ (s_.2 ≠ gb424) ∧ (Below w.heap.size w w')) ?_ ?_
        rotate_left
        ·
         intro hJ1_5
         refine join_ (σ := Nat × Nat) 4 (zm 8 53) (fun s_ => [(5, .pointer (some ⟨s_.1, 0, none⟩)), (6, .pointer (some ⟨s_.2, 0, none⟩))]) (fun s_ w' => (w'.cell? ⟨gb423, 0, none⟩ = some (.int .i64 a0_0) ∧ w'.cell? ⟨gb423, 1, none⟩ = some (.int .i64 a0_1) ∧ w'.cell? ⟨gb423, 2, none⟩ = some (.slice A0_2 l0_2.length c0_2) ∧ w'.cell? ⟨gb424, 0, none⟩ = some (.int .i64 a1_0) ∧ w'.cell? ⟨gb424, 1, none⟩ = some (.int .i64 a1_1) ∧ w'.cell? ⟨gb424, 2, none⟩ = some (.slice A1_2 l1_2.length c1_2)) ∧ (w'.heap[gb423]? = some (.cells #[.int .i64 a0_0, .int .i64 a0_1, .slice A0_2 l0_2.length c0_2] 27 (0, 0))) ∧ (w'.heap[gb424]? = some (.cells #[.int .i64 a1_0, .int .i64 a1_1, .slice A1_2 l1_2.length c1_2] 30 (0, 0))) ∧ (w'.heap[s_.1]? = some (.cells #[.int .i64 0, .int .i64 0, .slice none 0 0] 36 (0, 0))) ∧ (w'.heap[s_.2]? = some (.cells #[.int .i64 0, .int .i64 0, .slice none 0 0] 41 (0, 0))) ∧ (w.heap.size ≤ s_.1) ∧ (w.heap.size ≤ s_.1) ∧ (gb423 ≠ s_.1) ∧ (s_.1 ≠ gb423) ∧ (gb424 ≠ s_.1) ∧ (s_.1 ≠ gb424) ∧ (s_.2 ≠ s_.1) ∧ (s_.1 ≠ s_.2) ∧ (w.heap.size ≤ s_.2) ∧ (w.heap.size ≤ s_.2) ∧ (gb423 ≠ s_.2) ∧ (s_.2 ≠ gb423) ∧ (gb424 ≠ s_.2) ∧ (s_.2 ≠ gb424) ∧ (Below w.heap.size w w')) ?_ ?_
         rotate_left
         ·
          intro hJ4_5
          refine join_ (σ := Value) 5 (zm 8 7) (fun s_ => [(24, .agg #[.int .i64 t425, .int .i64 t426, s_])]) (fun s_ w' => (w'.cell? ⟨gb423, 0, none⟩ = some (.int .i64 a0_0) ∧ w'.cell? ⟨gb423, 1, none⟩ = some (.int .i64 a0_1) ∧ w'.cell? ⟨gb423, 2, none⟩ = some (.slice A0_2 l0_2.length c0_2) ∧ w'.cell? ⟨gb424, 0, none⟩ = some (.int .i64 a1_0) ∧ w'.cell? ⟨gb424, 1, none⟩ = some (.int .i64 a1_1) ∧ w'.cell? ⟨gb424, 2, none⟩ = some (.slice A1_2 l1_2.length c1_2)) ∧ (Kd.V k47 47 w' w.heap.size (fun k_ => k_ ≠ gb423 ∧ k_ ≠ gb424) s_ t427) ∧ (w'.heap[gb423]? = some (.cells #[.int .i64 a0_0, .int .i64 a0_1, .slice A0_2 l0_2.length c0_2] 27 (0, 0))) ∧ (w'.heap[gb424]? = some (.cells #[.int .i64 a1_0, .int .i64 a1_1, .slice A1_2 l1_2.length c1_2] 30 (0, 0))) ∧ (Below w.heap.size w w')) ?_ ?_
          rotate_left
          ·
           intro hJ1
           refine join_ (σ := Nat) 5 (zm 8 21) (fun s_ => [(5, .pointer (some ⟨s_, 0, none⟩))]) (fun s_ w' => (w'.cell? ⟨gb423, 0, none⟩ = some (.int .i64 a0_0) ∧ w'.cell? ⟨gb423, 1, none⟩ = some (.int .i64 a0_1) ∧ w'.cell? ⟨gb423, 2, none⟩ = some (.slice A0_2 l0_2.length c0_2) ∧ w'.cell? ⟨gb424, 0, none⟩ = some (.int .i64 a1_0) ∧ w'.cell? ⟨gb424, 1, none⟩ = some (.int .i64 a1_1) ∧ w'.cell? ⟨gb424, 2, none⟩ = some (.slice A1_2 l1_2.length c1_2)) ∧ (w'.heap[gb423]? = some (.cells #[.int .i64 a0_0, .int .i64 a0_1, .slice A0_2 l0_2.length c0_2] 27 (0, 0))) ∧ (w'.heap[gb424]? = some (.cells #[.int .i64 a1_0, .int .i64 a1_1, .slice A1_2 l1_2.length c1_2] 30 (0, 0))) ∧ (w'.heap[s_]? = some (.cells #[.int .i64 0, .int .i64 0, .slice none 0 0] 36 (0, 0))) ∧ (w.heap.size ≤ s_) ∧ (w.heap.size ≤ s_) ∧ (gb423 ≠ s_) ∧ (s_ ≠ gb423) ∧ (gb424 ≠ s_) ∧ (s_ ≠ gb424) ∧ (Below w.heap.size w w')) ?_ ?_
           rotate_left
           ·
            intro hJ4
            refine join_ (σ := Nat) 5 (zm 8 37) (fun s_ => [(6, .pointer (some ⟨s_, 0, none⟩))]) (fun s_ w' => (w'.cell? ⟨gb423, 0, none⟩ = some (.int .i64 a0_0) ∧ w'.cell? ⟨gb423, 1, none⟩ = some (.int .i64 a0_1) ∧ w'.cell? ⟨gb423, 2, none⟩ = some (.slice A0_2 l0_2.length c0_2) ∧ w'.cell? ⟨gb424, 0, none⟩ = some (.int .i64 a1_0) ∧ w'.cell? ⟨gb424, 1, none⟩ = some (.int .i64 a1_1) ∧ w'.cell? ⟨gb424, 2, none⟩ = some (.slice A1_2 l1_2.length c1_2)) ∧ (w'.heap[gb423]? = some (.cells #[.int .i64 a0_0, .int .i64 a0_1, .slice A0_2 l0_2.length c0_2] 27 (0, 0))) ∧ (w'.heap[gb424]? = some (.cells #[.int .i64 a1_0, .int .i64 a1_1, .slice A1_2 l1_2.length c1_2] 30 (0, 0))) ∧ (w'.heap[s_]? = some (.cells #[.int .i64 0, .int .i64 0, .slice none 0 0] 41 (0, 0))) ∧ (w.heap.size ≤ s_) ∧ (w.heap.size ≤ s_) ∧ (gb423 ≠ s_) ∧ (s_ ≠ gb423) ∧ (gb424 ≠ s_) ∧ (s_ ≠ gb424) ∧ (Below w.heap.size w w')) ?_ ?_
            rotate_left
            ·
             intro hJ5
             refine three_ (i := 1) (j := 4) (k := 5) (Ni := some 24) (Nj := some 5) (Nk := some 6) (zm 8 7) (zm 8 21) (zm 8 37) rfl rfl rfl rfl rfl rfl (three_of HT_.out (by kernel_rfl)) (by decide) (by decide) (by decide) (fun K hK => ?_) (fun K hK => ?_) (fun K hK => ?_)
             ·
              skip
              refine goes_ Tryz.func14 (by kernel_rfl) rfl #[.agg #[.int .i64 a0_0, .int .i64 a0_1, .slice A0_2 l0_2.length c0_2]] (by rfl) rfl rfl (by (try simp only [List.map_toArray, List.map_cons, List.map_nil]); try rfl) ?_
              with_reducible refine (aL_plain.calls a0_0 a0_1 (fun k_ => k_ < w.heap.size) _ _ l0_2 t425 t426 t427 _ ?side1 A3.out).mono ?_
              (case side1 => exact Kd.V_mk HC0_2.out (Kd.F_below (Kd.C_F k47_heap HR0_2.out) zB))
              rintro e w30 ⟨v428, rfl, ho0, hb⟩
              refine ⟨_, rfl, ?_⟩
              have HO429 := Zs.mk (Kd.V_lower (Kd.V_mono (ok' := fun k_ => k_ ≠ gb423 ∧ k_ ≠ gb424) ho0 (fun k_ hk_ => ⟨Or.elim hk_ (fun hs_ => fun e_ => Nat.not_le.2 hs_ (by rw [e_]; exact GW423.out)) (fun hn_ => (Kd.freshB (g := gb423) (o := .cells #[.int .i64 a0_0, .int .i64 a0_1, .slice A0_2 l0_2.length c0_2] 27 (0, 0)) (zK BK423) k_ hn_)), Or.elim hk_ (fun hs_ => fun e_ => Nat.not_le.2 hs_ (by rw [e_]; exact GW424.out)) (fun hn_ => (Kd.freshB (g := gb424) (o := .cells #[.int .i64 a1_0, .int .i64 a1_1, .slice A1_2 l1_2.length c1_2] 30 (0, 0)) (zK BK424) k_ hn_))⟩)) (bsz zB)); replace BK423 := zKb BK423 hb; replace BK424 := zKb BK424 hb; replace HB := zBs hb
              refine hK.out _ _ (zJ3 (zC3 BK423) (zC3 BK424)) (fun hHeld => ?_)
              clear hK K
              refine norm_ (a' := ?_) ?_ ?_
              rotate_left
              ·
               show Act.put _ (some 24) _ = _
               simp only [Act.put, z1, z2, z3, i64_w, i32_w]
               rfl
              exact zn (hJ1 (v428) _ ⟨hHeld, (zV HO429), (zK BK423), (zK BK424), zB⟩)
             ·
              skip
              refine box_step ?hg (N := 5) ?hd (cs := #[.int .i64 0, .int .i64 0, .slice none 0 0]) (t := 36) ?hr ?_; (case hd => rfl); (case hg => rfl); (case hr => first | (go_simp; done) | (go_simp; rfl))
              intro gb435 hg w30 hbox hb; have n0_ := zKb BK423 hb
              have n1_ := zKb BK424 hb
              have n2_ := zBs hb; have n3_ := Zs.mk (hbox); have n4_ := zG (w := w) hg
              have n5_ := zG (w := w) hg
              have n6_ := zN hg (zK BK423)
              have n7_ := zM hg (zK BK423)
              have n8_ := zN hg (zK BK424)
              have n9_ := zM hg (zK BK424)
              clear BK423; clear BK424; clear HB; have BK423 := n0_; have BK424 := n1_; have HB := n2_; have BK435 := n3_; have GW435 := n4_; have GE435 := n5_; have NB423_435 := n6_; have NB435_423 := n7_; have NB424_435 := n8_; have NB435_424 := n9_; clear n0_ n1_ n2_ n3_ n4_ n5_ n6_ n7_ n8_ n9_; clear hb hbox hg
              refine hK.out _ _ (zJ3 (zC3 BK423) (zC3 BK424)) (fun hHeld => ?_)
              clear hK K
              refine norm_ (a' := ?_) ?_ ?_
              rotate_left
              ·
               show Act.put _ (some 5) _ = _
               simp only [Act.put, z1, z2, z3, i64_w, i32_w]
               rfl
              exact zn (hJ4 (gb435) _ ⟨hHeld, (zK BK423), (zK BK424), (zK BK435), GW435.out, GE435.out, NB423_435.out, NB435_423.out, NB424_435.out, NB435_424.out, zB⟩)
             ·
              skip
              refine box_step ?hg (N := 6) ?hd (cs := #[.int .i64 0, .int .i64 0, .slice none 0 0]) (t := 41) ?hr ?_; (case hd => rfl); (case hg => rfl); (case hr => first | (go_simp; done) | (go_simp; rfl))
              intro gb436 hg w30 hbox hb; have n0_ := zKb BK423 hb
              have n1_ := zKb BK424 hb
              have n2_ := zBs hb; have n3_ := Zs.mk (hbox); have n4_ := zG (w := w) hg
              have n5_ := zG (w := w) hg
              have n6_ := zN hg (zK BK423)
              have n7_ := zM hg (zK BK423)
              have n8_ := zN hg (zK BK424)
              have n9_ := zM hg (zK BK424)
              clear BK423; clear BK424; clear HB; have BK423 := n0_; have BK424 := n1_; have HB := n2_; have BK436 := n3_; have GW436 := n4_; have GE436 := n5_; have NB423_436 := n6_; have NB436_423 := n7_; have NB424_436 := n8_; have NB436_424 := n9_; clear n0_ n1_ n2_ n3_ n4_ n5_ n6_ n7_ n8_ n9_; clear hb hbox hg
              refine hK.out _ _ (zJ3 (zC3 BK423) (zC3 BK424)) (fun hHeld => ?_)
              clear hK K
              refine norm_ (a' := ?_) ?_ ?_
              rotate_left
              ·
               show Act.put _ (some 6) _ = _
               simp only [Act.put, z1, z2, z3, i64_w, i32_w]
               rfl
              exact zn (hJ5 (gb436) _ ⟨hHeld, (zK BK423), (zK BK424), (zK BK436), GW436.out, GE436.out, NB423_436.out, NB436_423.out, NB424_436.out, NB436_424.out, zB⟩)
            ·
             skip
             rintro gb436 w31 ⟨hS_, h0_, h1_, h2_, h3_, h4_, h5_, h6_, h7_, h8_, h9_⟩
             have n0_ : Zs (w31.heap[gb423]? = some (.cells #[.int .i64 a0_0, .int .i64 a0_1, .slice A0_2 l0_2.length c0_2] 27 (0, 0))) := ⟨h0_⟩; have n1_ : Zs (w31.heap[gb424]? = some (.cells #[.int .i64 a1_0, .int .i64 a1_1, .slice A1_2 l1_2.length c1_2] 30 (0, 0))) := ⟨h1_⟩; have n2_ : Zs (w31.heap[gb436]? = some (.cells #[.int .i64 0, .int .i64 0, .slice none 0 0] 41 (0, 0))) := ⟨h2_⟩; have n3_ : Zs (w.heap.size ≤ gb436) := ⟨h3_⟩; have n4_ : Zs (w.heap.size ≤ gb436) := ⟨h4_⟩; have n5_ : Zs (gb423 ≠ gb436) := ⟨h5_⟩; have n6_ : Zs (gb436 ≠ gb423) := ⟨h6_⟩; have n7_ : Zs (gb424 ≠ gb436) := ⟨h7_⟩; have n8_ : Zs (gb436 ≠ gb424) := ⟨h8_⟩; have n9_ : Zs (Below w.heap.size w w31) := ⟨h9_⟩; clear BK423; clear BK424; clear HB; clear h0_ h1_ h2_ h3_ h4_ h5_ h6_ h7_ h8_ h9_; have BK423 := n0_; have BK424 := n1_; have BK436 := n2_; have GW436 := n3_; have GE436 := n4_; have NB423_436 := n5_; have NB436_423 := n6_; have NB424_436 := n7_; have NB436_424 := n8_; have HB := n9_; clear n0_ n1_ n2_ n3_ n4_ n5_ n6_ n7_ n8_ n9_; have hHeld : w31.cell? ⟨gb423, 0, none⟩ = some (.int .i64 a0_0) ∧ w31.cell? ⟨gb423, 1, none⟩ = some (.int .i64 a0_1) ∧ w31.cell? ⟨gb423, 2, none⟩ = some (.slice A0_2 l0_2.length c0_2) ∧ w31.cell? ⟨gb424, 0, none⟩ = some (.int .i64 a1_0) ∧ w31.cell? ⟨gb424, 1, none⟩ = some (.int .i64 a1_1) ∧ w31.cell? ⟨gb424, 2, none⟩ = some (.slice A1_2 l1_2.length c1_2) := hS_
             refine norm_ (a' := ?_) ?_ ?_
             rotate_left
             · simp only [putAll, Act.put, List.setIfInBounds_toArray, List.set_cons_zero, List.set_cons_succ]; rfl
             refine two_ (i := 1) (j := 4) (Ni := some 24) (Nj := some 5) (zm 8 39) (zm 8 53) rfl rfl rfl rfl (two_of HT_.out (by kernel_rfl)) (by decide) (by decide) (fun K hK => ?_) (fun K hK => ?_)
             ·
              skip
              refine goes_ Tryz.func14 (by kernel_rfl) rfl #[.agg #[.int .i64 a0_0, .int .i64 a0_1, .slice A0_2 l0_2.length c0_2]] (by rfl) rfl rfl (by (try simp only [List.map_toArray, List.map_cons, List.map_nil]); try rfl) ?_
              with_reducible refine (aL_plain.calls a0_0 a0_1 (fun k_ => k_ < w.heap.size) _ _ l0_2 t425 t426 t427 _ ?side1 A3.out).mono ?_
              (case side1 => exact Kd.V_mk HC0_2.out (Kd.F_below (Kd.C_F k47_heap HR0_2.out) zB))
              rintro e w32 ⟨v428, rfl, ho0, hb⟩
              refine ⟨_, rfl, ?_⟩
              have HO429 := Zs.mk (Kd.V_lower (Kd.V_mono (ok' := fun k_ => k_ ≠ gb423 ∧ k_ ≠ gb424 ∧ k_ ≠ gb436) ho0 (fun k_ hk_ => ⟨Or.elim hk_ (fun hs_ => fun e_ => Nat.not_le.2 hs_ (by rw [e_]; exact GW423.out)) (fun hn_ => (Kd.freshB (g := gb423) (o := .cells #[.int .i64 a0_0, .int .i64 a0_1, .slice A0_2 l0_2.length c0_2] 27 (0, 0)) (zK BK423) k_ hn_)), Or.elim hk_ (fun hs_ => fun e_ => Nat.not_le.2 hs_ (by rw [e_]; exact GW424.out)) (fun hn_ => (Kd.freshB (g := gb424) (o := .cells #[.int .i64 a1_0, .int .i64 a1_1, .slice A1_2 l1_2.length c1_2] 30 (0, 0)) (zK BK424) k_ hn_)), Or.elim hk_ (fun hs_ => fun e_ => Nat.not_le.2 hs_ (by rw [e_]; exact GW436.out)) (fun hn_ => (Kd.freshB (g := gb436) (o := .cells #[.int .i64 0, .int .i64 0, .slice none 0 0] 41 (0, 0)) (zK BK436) k_ hn_))⟩)) (bsz zB)); replace BK423 := zKb BK423 hb; replace BK424 := zKb BK424 hb; replace BK436 := zKb BK436 hb; replace HB := zBs hb
              refine hK.out _ _ (zJ3 (zC3 BK423) (zC3 BK424)) (fun hHeld => ?_)
              clear hK K
              refine norm_ (a' := ?_) ?_ ?_
              rotate_left
              ·
               show Act.put _ (some 24) _ = _
               simp only [Act.put, z1, z2, z3, i64_w, i32_w]
               rfl
              exact zn (hJ1_5 (v428, gb436) _ ⟨hHeld, (zV HO429), (zK BK423), (zK BK424), (zK BK436), GW436.out, GE436.out, NB423_436.out, NB436_423.out, NB424_436.out, NB436_424.out, zB⟩)
             ·
              skip
              refine box_step ?hg (N := 5) ?hd (cs := #[.int .i64 0, .int .i64 0, .slice none 0 0]) (t := 36) ?hr ?_; (case hd => rfl); (case hg => rfl); (case hr => first | (go_simp; done) | (go_simp; rfl))
              intro gb435 hg w32 hbox hb; have n0_ := zKb BK423 hb
              have n1_ := zKb BK424 hb
              have n2_ := zKb BK436 hb
              have n3_ := zBs hb; have n4_ := Zs.mk (hbox); have n5_ := zG (w := w) hg
              have n6_ := zG (w := w) hg
              have n7_ := zN hg (zK BK423)
              have n8_ := zM hg (zK BK423)
              have n9_ := zN hg (zK BK424)
              have n10_ := zM hg (zK BK424)
              have n11_ := zN hg (zK BK436)
              have n12_ := zM hg (zK BK436)
              clear BK423; clear BK424; clear BK436; clear HB; have BK423 := n0_; have BK424 := n1_; have BK436 := n2_; have HB := n3_; have BK435 := n4_; have GW435 := n5_; have GE435 := n6_; have NB423_435 := n7_; have NB435_423 := n8_; have NB424_435 := n9_; have NB435_424 := n10_; have NB436_435 := n11_; have NB435_436 := n12_; clear n0_ n1_ n2_ n3_ n4_ n5_ n6_ n7_ n8_ n9_ n10_ n11_ n12_; clear hb hbox hg
              refine hK.out _ _ (zJ3 (zC3 BK423) (zC3 BK424)) (fun hHeld => ?_)
              clear hK K
              refine norm_ (a' := ?_) ?_ ?_
              rotate_left
              ·
               show Act.put _ (some 5) _ = _
               simp only [Act.put, z1, z2, z3, i64_w, i32_w]
               rfl
              exact zn (hJ4_5 (gb435, gb436) _ ⟨hHeld, (zK BK423), (zK BK424), (zK BK435), (zK BK436), GW435.out, GE435.out, NB423_435.out, NB435_423.out, NB424_435.out, NB435_424.out, NB436_435.out, NB435_436.out, GW436.out, GE436.out, NB423_436.out, NB436_423.out, NB424_436.out, NB436_424.out, zB⟩)
           ·
            skip
            rintro gb435 w31 ⟨hS_, h0_, h1_, h2_, h3_, h4_, h5_, h6_, h7_, h8_, h9_⟩
            have n0_ : Zs (w31.heap[gb423]? = some (.cells #[.int .i64 a0_0, .int .i64 a0_1, .slice A0_2 l0_2.length c0_2] 27 (0, 0))) := ⟨h0_⟩; have n1_ : Zs (w31.heap[gb424]? = some (.cells #[.int .i64 a1_0, .int .i64 a1_1, .slice A1_2 l1_2.length c1_2] 30 (0, 0))) := ⟨h1_⟩; have n2_ : Zs (w31.heap[gb435]? = some (.cells #[.int .i64 0, .int .i64 0, .slice none 0 0] 36 (0, 0))) := ⟨h2_⟩; have n3_ : Zs (w.heap.size ≤ gb435) := ⟨h3_⟩; have n4_ : Zs (w.heap.size ≤ gb435) := ⟨h4_⟩; have n5_ : Zs (gb423 ≠ gb435) := ⟨h5_⟩; have n6_ : Zs (gb435 ≠ gb423) := ⟨h6_⟩; have n7_ : Zs (gb424 ≠ gb435) := ⟨h7_⟩; have n8_ : Zs (gb435 ≠ gb424) := ⟨h8_⟩; have n9_ : Zs (Below w.heap.size w w31) := ⟨h9_⟩; clear BK423; clear BK424; clear HB; clear h0_ h1_ h2_ h3_ h4_ h5_ h6_ h7_ h8_ h9_; have BK423 := n0_; have BK424 := n1_; have BK435 := n2_; have GW435 := n3_; have GE435 := n4_; have NB423_435 := n5_; have NB435_423 := n6_; have NB424_435 := n7_; have NB435_424 := n8_; have HB := n9_; clear n0_ n1_ n2_ n3_ n4_ n5_ n6_ n7_ n8_ n9_; have hHeld : w31.cell? ⟨gb423, 0, none⟩ = some (.int .i64 a0_0) ∧ w31.cell? ⟨gb423, 1, none⟩ = some (.int .i64 a0_1) ∧ w31.cell? ⟨gb423, 2, none⟩ = some (.slice A0_2 l0_2.length c0_2) ∧ w31.cell? ⟨gb424, 0, none⟩ = some (.int .i64 a1_0) ∧ w31.cell? ⟨gb424, 1, none⟩ = some (.int .i64 a1_1) ∧ w31.cell? ⟨gb424, 2, none⟩ = some (.slice A1_2 l1_2.length c1_2) := hS_
            refine norm_ (a' := ?_) ?_ ?_
            rotate_left
            · simp only [putAll, Act.put, List.setIfInBounds_toArray, List.set_cons_zero, List.set_cons_succ]; rfl
            refine two_ (i := 1) (j := 5) (Ni := some 24) (Nj := some 6) (zm 8 23) (zm 8 53) rfl rfl rfl rfl (two_of HT_.out (by kernel_rfl)) (by decide) (by decide) (fun K hK => ?_) (fun K hK => ?_)
            ·
             skip
             refine goes_ Tryz.func14 (by kernel_rfl) rfl #[.agg #[.int .i64 a0_0, .int .i64 a0_1, .slice A0_2 l0_2.length c0_2]] (by rfl) rfl rfl (by (try simp only [List.map_toArray, List.map_cons, List.map_nil]); try rfl) ?_
             with_reducible refine (aL_plain.calls a0_0 a0_1 (fun k_ => k_ < w.heap.size) _ _ l0_2 t425 t426 t427 _ ?side1 A3.out).mono ?_
             (case side1 => exact Kd.V_mk HC0_2.out (Kd.F_below (Kd.C_F k47_heap HR0_2.out) zB))
             rintro e w32 ⟨v428, rfl, ho0, hb⟩
             refine ⟨_, rfl, ?_⟩
             have HO429 := Zs.mk (Kd.V_lower (Kd.V_mono (ok' := fun k_ => k_ ≠ gb423 ∧ k_ ≠ gb424 ∧ k_ ≠ gb435) ho0 (fun k_ hk_ => ⟨Or.elim hk_ (fun hs_ => fun e_ => Nat.not_le.2 hs_ (by rw [e_]; exact GW423.out)) (fun hn_ => (Kd.freshB (g := gb423) (o := .cells #[.int .i64 a0_0, .int .i64 a0_1, .slice A0_2 l0_2.length c0_2] 27 (0, 0)) (zK BK423) k_ hn_)), Or.elim hk_ (fun hs_ => fun e_ => Nat.not_le.2 hs_ (by rw [e_]; exact GW424.out)) (fun hn_ => (Kd.freshB (g := gb424) (o := .cells #[.int .i64 a1_0, .int .i64 a1_1, .slice A1_2 l1_2.length c1_2] 30 (0, 0)) (zK BK424) k_ hn_)), Or.elim hk_ (fun hs_ => fun e_ => Nat.not_le.2 hs_ (by rw [e_]; exact GW435.out)) (fun hn_ => (Kd.freshB (g := gb435) (o := .cells #[.int .i64 0, .int .i64 0, .slice none 0 0] 36 (0, 0)) (zK BK435) k_ hn_))⟩)) (bsz zB)); replace BK423 := zKb BK423 hb; replace BK424 := zKb BK424 hb; replace BK435 := zKb BK435 hb; replace HB := zBs hb
             refine hK.out _ _ (zJ3 (zC3 BK423) (zC3 BK424)) (fun hHeld => ?_)
             clear hK K
             refine norm_ (a' := ?_) ?_ ?_
             rotate_left
             ·
              show Act.put _ (some 24) _ = _
              simp only [Act.put, z1, z2, z3, i64_w, i32_w]
              rfl
             exact zn (hJ1_4 (v428, gb435) _ ⟨hHeld, (zV HO429), (zK BK423), (zK BK424), (zK BK435), GW435.out, GE435.out, NB423_435.out, NB435_423.out, NB424_435.out, NB435_424.out, zB⟩)
            ·
             skip
             refine box_step ?hg (N := 6) ?hd (cs := #[.int .i64 0, .int .i64 0, .slice none 0 0]) (t := 41) ?hr ?_; (case hd => rfl); (case hg => rfl); (case hr => first | (go_simp; done) | (go_simp; rfl))
             intro gb436 hg w32 hbox hb; have n0_ := zKb BK423 hb
             have n1_ := zKb BK424 hb
             have n2_ := zKb BK435 hb
             have n3_ := zBs hb; have n4_ := Zs.mk (hbox); have n5_ := zG (w := w) hg
             have n6_ := zG (w := w) hg
             have n7_ := zN hg (zK BK423)
             have n8_ := zM hg (zK BK423)
             have n9_ := zN hg (zK BK424)
             have n10_ := zM hg (zK BK424)
             have n11_ := zN hg (zK BK435)
             have n12_ := zM hg (zK BK435)
             clear BK423; clear BK424; clear BK435; clear HB; have BK423 := n0_; have BK424 := n1_; have BK435 := n2_; have HB := n3_; have BK436 := n4_; have GW436 := n5_; have GE436 := n6_; have NB423_436 := n7_; have NB436_423 := n8_; have NB424_436 := n9_; have NB436_424 := n10_; have NB435_436 := n11_; have NB436_435 := n12_; clear n0_ n1_ n2_ n3_ n4_ n5_ n6_ n7_ n8_ n9_ n10_ n11_ n12_; clear hb hbox hg
             refine hK.out _ _ (zJ3 (zC3 BK423) (zC3 BK424)) (fun hHeld => ?_)
             clear hK K
             refine norm_ (a' := ?_) ?_ ?_
             rotate_left
             ·
              show Act.put _ (some 6) _ = _
              simp only [Act.put, z1, z2, z3, i64_w, i32_w]
              rfl
             exact zn (hJ4_5 (gb435, gb436) _ ⟨hHeld, (zK BK423), (zK BK424), (zK BK435), (zK BK436), GW435.out, GE435.out, NB423_435.out, NB435_423.out, NB424_435.out, NB435_424.out, NB436_435.out, NB435_436.out, GW436.out, GE436.out, NB423_436.out, NB436_423.out, NB424_436.out, NB436_424.out, zB⟩)
          ·
           skip
           rintro v428 w31 ⟨hS_, h0_, h1_, h2_, h3_⟩
           have n0_ : Zs (Kd.V k47 47 w31 w.heap.size (fun k_ => k_ ≠ gb423 ∧ k_ ≠ gb424) v428 t427) := ⟨h0_⟩; have n1_ : Zs (w31.heap[gb423]? = some (.cells #[.int .i64 a0_0, .int .i64 a0_1, .slice A0_2 l0_2.length c0_2] 27 (0, 0))) := ⟨h1_⟩; have n2_ : Zs (w31.heap[gb424]? = some (.cells #[.int .i64 a1_0, .int .i64 a1_1, .slice A1_2 l1_2.length c1_2] 30 (0, 0))) := ⟨h2_⟩; have n3_ : Zs (Below w.heap.size w w31) := ⟨h3_⟩; clear BK423; clear BK424; clear HB; clear h0_ h1_ h2_ h3_; have HO429 := n0_; have BK423 := n1_; have BK424 := n2_; have HB := n3_; clear n0_ n1_ n2_ n3_; have hHeld : w31.cell? ⟨gb423, 0, none⟩ = some (.int .i64 a0_0) ∧ w31.cell? ⟨gb423, 1, none⟩ = some (.int .i64 a0_1) ∧ w31.cell? ⟨gb423, 2, none⟩ = some (.slice A0_2 l0_2.length c0_2) ∧ w31.cell? ⟨gb424, 0, none⟩ = some (.int .i64 a1_0) ∧ w31.cell? ⟨gb424, 1, none⟩ = some (.int .i64 a1_1) ∧ w31.cell? ⟨gb424, 2, none⟩ = some (.slice A1_2 l1_2.length c1_2) := hS_
           refine norm_ (a' := ?_) ?_ ?_
           rotate_left
           · simp only [putAll, Act.put, List.setIfInBounds_toArray, List.set_cons_zero, List.set_cons_succ]; rfl
           refine three_ (i := 3) (j := 4) (k := 5) (Ni := some 26) (Nj := some 5) (Nk := some 6) (zm 8 15) (zm 8 23) (zm 8 39) rfl rfl rfl rfl rfl rfl (three_of HT_.out (by kernel_rfl)) (by decide) (by decide) (by decide) (fun K hK => ?_) (fun K hK => ?_) (fun K hK => ?_)
           ·
            skip
            refine goes_ Tryz.func16 (by kernel_rfl) rfl #[.agg #[.int .i64 a1_0, .int .i64 a1_1, .slice A1_2 l1_2.length c1_2]] (by rfl) rfl rfl (by (try simp only [List.map_toArray, List.map_cons, List.map_nil]); try rfl) ?_
            with_reducible refine (aL_old.calls k a1_0 a1_1 _ _ l1_2 t430 t431 t432 _ ?side1 ?side2 A4.out).mono ?_
            (case side1 => exact zQC HR1_2)
            (case side2 => exact HC1_2.out)
            rintro e w32 ⟨v433, rfl, ho0, hb⟩
            refine ⟨_, rfl, ?_⟩
            replace HO429 := Zs.mk (Kd.V_elder' (zV HO429) (Kd.R_base ho0) hb); have HO434 := Zs.mk (Kd.R_lower ho0 (bsz zB)); replace BK423 := zKb BK423 hb; replace BK424 := zKb BK424 hb; replace HB := zBs hb
            refine hK.out _ _ (zJ3 (zC3 BK423) (zC3 BK424)) (fun hHeld => ?_)
            clear hK K
            refine norm_ (a' := ?_) ?_ ?_
            rotate_left
            ·
             show Act.put _ (some 26) _ = _
             simp only [Act.put, z1, z2, z3, i64_w, i32_w]
             rfl
            exact zn (hJ1_3 (v428, v433) _ ⟨hHeld, (by (with_reducible repeat (first | apply Kd.V_alloc | apply Kd.V_drewN | apply Kd.V_drew)); exact Kd.V_mono HO429.out (fun _ hk => ⟨hk.2, ⟨hk.1.1, hk.1.2⟩⟩)), (zR HO434), (zK BK423), (zK BK424), zB⟩)
           ·
            skip
            refine box_step ?hg (N := 5) ?hd (cs := #[.int .i64 0, .int .i64 0, .slice none 0 0]) (t := 36) ?hr ?_; (case hd => rfl); (case hg => rfl); (case hr => first | (go_simp; done) | (go_simp; rfl))
            intro gb435 hg w32 hbox hb; have n0_ := Zs.mk (Kd.V_below (Kd.V_elderB (zV HO429) gb435 (Nat.le_of_eq hg.symm)) hb)
            have n1_ := zKb BK423 hb
            have n2_ := zKb BK424 hb
            have n3_ := zBs hb; have n4_ := Zs.mk (hbox); have n5_ := zG (w := w) hg
            have n6_ := zG (w := w) hg
            have n7_ := zN hg (zK BK423)
            have n8_ := zM hg (zK BK423)
            have n9_ := zN hg (zK BK424)
            have n10_ := zM hg (zK BK424)
            clear HO429; clear BK423; clear BK424; clear HB; have HO429 := n0_; have BK423 := n1_; have BK424 := n2_; have HB := n3_; have BK435 := n4_; have GW435 := n5_; have GE435 := n6_; have NB423_435 := n7_; have NB435_423 := n8_; have NB424_435 := n9_; have NB435_424 := n10_; clear n0_ n1_ n2_ n3_ n4_ n5_ n6_ n7_ n8_ n9_ n10_; clear hb hbox hg
            refine hK.out _ _ (zJ3 (zC3 BK423) (zC3 BK424)) (fun hHeld => ?_)
            clear hK K
            refine norm_ (a' := ?_) ?_ ?_
            rotate_left
            ·
             show Act.put _ (some 5) _ = _
             simp only [Act.put, z1, z2, z3, i64_w, i32_w]
             rfl
            exact zn (hJ1_4 (v428, gb435) _ ⟨hHeld, (by (with_reducible repeat (first | apply Kd.V_alloc | apply Kd.V_drewN | apply Kd.V_drew)); exact Kd.V_mono HO429.out (fun _ hk => ⟨hk.1.1, ⟨hk.1.2, hk.2⟩⟩)), (zK BK423), (zK BK424), (zK BK435), GW435.out, GE435.out, NB423_435.out, NB435_423.out, NB424_435.out, NB435_424.out, zB⟩)
           ·
            skip
            refine box_step ?hg (N := 6) ?hd (cs := #[.int .i64 0, .int .i64 0, .slice none 0 0]) (t := 41) ?hr ?_; (case hd => rfl); (case hg => rfl); (case hr => first | (go_simp; done) | (go_simp; rfl))
            intro gb436 hg w32 hbox hb; have n0_ := Zs.mk (Kd.V_below (Kd.V_elderB (zV HO429) gb436 (Nat.le_of_eq hg.symm)) hb)
            have n1_ := zKb BK423 hb
            have n2_ := zKb BK424 hb
            have n3_ := zBs hb; have n4_ := Zs.mk (hbox); have n5_ := zG (w := w) hg
            have n6_ := zG (w := w) hg
            have n7_ := zN hg (zK BK423)
            have n8_ := zM hg (zK BK423)
            have n9_ := zN hg (zK BK424)
            have n10_ := zM hg (zK BK424)
            clear HO429; clear BK423; clear BK424; clear HB; have HO429 := n0_; have BK423 := n1_; have BK424 := n2_; have HB := n3_; have BK436 := n4_; have GW436 := n5_; have GE436 := n6_; have NB423_436 := n7_; have NB436_423 := n8_; have NB424_436 := n9_; have NB436_424 := n10_; clear n0_ n1_ n2_ n3_ n4_ n5_ n6_ n7_ n8_ n9_ n10_; clear hb hbox hg
            refine hK.out _ _ (zJ3 (zC3 BK423) (zC3 BK424)) (fun hHeld => ?_)
            clear hK K
            refine norm_ (a' := ?_) ?_ ?_
            rotate_left
            ·
             show Act.put _ (some 6) _ = _
             simp only [Act.put, z1, z2, z3, i64_w, i32_w]
             rfl
            exact zn (hJ1_5 (v428, gb436) _ ⟨hHeld, (by (with_reducible repeat (first | apply Kd.V_alloc | apply Kd.V_drewN | apply Kd.V_drew)); exact Kd.V_mono HO429.out (fun _ hk => ⟨hk.1.1, ⟨hk.1.2, hk.2⟩⟩)), (zK BK423), (zK BK424), (zK BK436), GW436.out, GE436.out, NB423_436.out, NB436_423.out, NB424_436.out, NB436_424.out, zB⟩)
         ·
          skip
          rintro ⟨gb435, gb436⟩ w32 ⟨hS_, h0_, h1_, h2_, h3_, h4_, h5_, h6_, h7_, h8_, h9_, h10_, h11_, h12_, h13_, h14_, h15_, h16_, h17_, h18_⟩
          have n0_ : Zs (w32.heap[gb423]? = some (.cells #[.int .i64 a0_0, .int .i64 a0_1, .slice A0_2 l0_2.length c0_2] 27 (0, 0))) := ⟨h0_⟩; have n1_ : Zs (w32.heap[gb424]? = some (.cells #[.int .i64 a1_0, .int .i64 a1_1, .slice A1_2 l1_2.length c1_2] 30 (0, 0))) := ⟨h1_⟩; have n2_ : Zs (w32.heap[gb435]? = some (.cells #[.int .i64 0, .int .i64 0, .slice none 0 0] 36 (0, 0))) := ⟨h2_⟩; have n3_ : Zs (w32.heap[gb436]? = some (.cells #[.int .i64 0, .int .i64 0, .slice none 0 0] 41 (0, 0))) := ⟨h3_⟩; have n4_ : Zs (w.heap.size ≤ gb435) := ⟨h4_⟩; have n5_ : Zs (w.heap.size ≤ gb435) := ⟨h5_⟩; have n6_ : Zs (gb423 ≠ gb435) := ⟨h6_⟩; have n7_ : Zs (gb435 ≠ gb423) := ⟨h7_⟩; have n8_ : Zs (gb424 ≠ gb435) := ⟨h8_⟩; have n9_ : Zs (gb435 ≠ gb424) := ⟨h9_⟩; have n10_ : Zs (gb436 ≠ gb435) := ⟨h10_⟩; have n11_ : Zs (gb435 ≠ gb436) := ⟨h11_⟩; have n12_ : Zs (w.heap.size ≤ gb436) := ⟨h12_⟩; have n13_ : Zs (w.heap.size ≤ gb436) := ⟨h13_⟩; have n14_ : Zs (gb423 ≠ gb436) := ⟨h14_⟩; have n15_ : Zs (gb436 ≠ gb423) := ⟨h15_⟩; have n16_ : Zs (gb424 ≠ gb436) := ⟨h16_⟩; have n17_ : Zs (gb436 ≠ gb424) := ⟨h17_⟩; have n18_ : Zs (Below w.heap.size w w32) := ⟨h18_⟩; clear BK423; clear BK424; clear HB; clear h0_ h1_ h2_ h3_ h4_ h5_ h6_ h7_ h8_ h9_ h10_ h11_ h12_ h13_ h14_ h15_ h16_ h17_ h18_; have BK423 := n0_; have BK424 := n1_; have BK435 := n2_; have BK436 := n3_; have GW435 := n4_; have GE435 := n5_; have NB423_435 := n6_; have NB435_423 := n7_; have NB424_435 := n8_; have NB435_424 := n9_; have NB436_435 := n10_; have NB435_436 := n11_; have GW436 := n12_; have GE436 := n13_; have NB423_436 := n14_; have NB436_423 := n15_; have NB424_436 := n16_; have NB436_424 := n17_; have HB := n18_; clear n0_ n1_ n2_ n3_ n4_ n5_ n6_ n7_ n8_ n9_ n10_ n11_ n12_ n13_ n14_ n15_ n16_ n17_ n18_; have hHeld : w32.cell? ⟨gb423, 0, none⟩ = some (.int .i64 a0_0) ∧ w32.cell? ⟨gb423, 1, none⟩ = some (.int .i64 a0_1) ∧ w32.cell? ⟨gb423, 2, none⟩ = some (.slice A0_2 l0_2.length c0_2) ∧ w32.cell? ⟨gb424, 0, none⟩ = some (.int .i64 a1_0) ∧ w32.cell? ⟨gb424, 1, none⟩ = some (.int .i64 a1_1) ∧ w32.cell? ⟨gb424, 2, none⟩ = some (.slice A1_2 l1_2.length c1_2) := hS_
          refine norm_ (a' := ?_) ?_ ?_
          rotate_left
          · simp only [putAll, Act.put, List.setIfInBounds_toArray, List.set_cons_zero, List.set_cons_succ]; rfl
          refine one_ (i := 1) (N := some 24) (zm 8 55) rfl rfl (one_of HT_.out (by kernel_rfl)) (by decide) (fun K hK => ?_)
          refine goes_ Tryz.func14 (by kernel_rfl) rfl #[.agg #[.int .i64 a0_0, .int .i64 a0_1, .slice A0_2 l0_2.length c0_2]] (by rfl) rfl rfl (by (try simp only [List.map_toArray, List.map_cons, List.map_nil]); try rfl) ?_
          with_reducible refine (aL_plain.calls a0_0 a0_1 (fun k_ => k_ < w.heap.size) _ _ l0_2 t425 t426 t427 _ ?side1 A3.out).mono ?_
          (case side1 => exact Kd.V_mk HC0_2.out (Kd.F_below (Kd.C_F k47_heap HR0_2.out) zB))
          rintro e w33 ⟨v428, rfl, ho0, hb⟩
          refine ⟨_, rfl, ?_⟩
          have HO429 := Zs.mk (Kd.V_lower (Kd.V_mono (ok' := fun k_ => k_ ≠ gb423 ∧ k_ ≠ gb424 ∧ k_ ≠ gb435 ∧ k_ ≠ gb436) ho0 (fun k_ hk_ => ⟨Or.elim hk_ (fun hs_ => fun e_ => Nat.not_le.2 hs_ (by rw [e_]; exact GW423.out)) (fun hn_ => (Kd.freshB (g := gb423) (o := .cells #[.int .i64 a0_0, .int .i64 a0_1, .slice A0_2 l0_2.length c0_2] 27 (0, 0)) (zK BK423) k_ hn_)), Or.elim hk_ (fun hs_ => fun e_ => Nat.not_le.2 hs_ (by rw [e_]; exact GW424.out)) (fun hn_ => (Kd.freshB (g := gb424) (o := .cells #[.int .i64 a1_0, .int .i64 a1_1, .slice A1_2 l1_2.length c1_2] 30 (0, 0)) (zK BK424) k_ hn_)), Or.elim hk_ (fun hs_ => fun e_ => Nat.not_le.2 hs_ (by rw [e_]; exact GW435.out)) (fun hn_ => (Kd.freshB (g := gb435) (o := .cells #[.int .i64 0, .int .i64 0, .slice none 0 0] 36 (0, 0)) (zK BK435) k_ hn_)), Or.elim hk_ (fun hs_ => fun e_ => Nat.not_le.2 hs_ (by rw [e_]; exact GW436.out)) (fun hn_ => (Kd.freshB (g := gb436) (o := .cells #[.int .i64 0, .int .i64 0, .slice none 0 0] 41 (0, 0)) (zK BK436) k_ hn_))⟩)) (bsz zB)); replace BK423 := zKb BK423 hb; replace BK424 := zKb BK424 hb; replace BK435 := zKb BK435 hb; replace BK436 := zKb BK436 hb; replace HB := zBs hb
          refine hK.out _ _ (zJ3 (zC3 BK423) (zC3 BK424)) (fun hHeld => ?_)
          clear hK K
          refine norm_ (a' := ?_) ?_ ?_
          rotate_left
          ·
           show Act.put _ (some 24) _ = _
           simp only [Act.put, z1, z2, z3, i64_w, i32_w]
           rfl
          exact zn (hJ1_4_5 (v428, gb435, gb436) _ ⟨hHeld, (zV HO429), (zK BK423), (zK BK424), (zK BK435), (zK BK436), GW435.out, GE435.out, NB423_435.out, NB435_423.out, NB424_435.out, NB435_424.out, NB436_435.out, NB435_436.out, GW436.out, GE436.out, NB423_436.out, NB436_423.out, NB424_436.out, NB436_424.out, zB⟩)
        ·
         skip
         rintro ⟨v428, gb436⟩ w32 ⟨hS_, h0_, h1_, h2_, h3_, h4_, h5_, h6_, h7_, h8_, h9_, h10_⟩
         have n0_ : Zs (Kd.V k47 47 w32 w.heap.size (fun k_ => k_ ≠ gb423 ∧ k_ ≠ gb424 ∧ k_ ≠ gb436) v428 t427) := ⟨h0_⟩; have n1_ : Zs (w32.heap[gb423]? = some (.cells #[.int .i64 a0_0, .int .i64 a0_1, .slice A0_2 l0_2.length c0_2] 27 (0, 0))) := ⟨h1_⟩; have n2_ : Zs (w32.heap[gb424]? = some (.cells #[.int .i64 a1_0, .int .i64 a1_1, .slice A1_2 l1_2.length c1_2] 30 (0, 0))) := ⟨h2_⟩; have n3_ : Zs (w32.heap[gb436]? = some (.cells #[.int .i64 0, .int .i64 0, .slice none 0 0] 41 (0, 0))) := ⟨h3_⟩; have n4_ : Zs (w.heap.size ≤ gb436) := ⟨h4_⟩; have n5_ : Zs (w.heap.size ≤ gb436) := ⟨h5_⟩; have n6_ : Zs (gb423 ≠ gb436) := ⟨h6_⟩; have n7_ : Zs (gb436 ≠ gb423) := ⟨h7_⟩; have n8_ : Zs (gb424 ≠ gb436) := ⟨h8_⟩; have n9_ : Zs (gb436 ≠ gb424) := ⟨h9_⟩; have n10_ : Zs (Below w.heap.size w w32) := ⟨h10_⟩; clear BK423; clear BK424; clear HB; clear h0_ h1_ h2_ h3_ h4_ h5_ h6_ h7_ h8_ h9_ h10_; have HO429 := n0_; have BK423 := n1_; have BK424 := n2_; have BK436 := n3_; have GW436 := n4_; have GE436 := n5_; have NB423_436 := n6_; have NB436_423 := n7_; have NB424_436 := n8_; have NB436_424 := n9_; have HB := n10_; clear n0_ n1_ n2_ n3_ n4_ n5_ n6_ n7_ n8_ n9_ n10_; have hHeld : w32.cell? ⟨gb423, 0, none⟩ = some (.int .i64 a0_0) ∧ w32.cell? ⟨gb423, 1, none⟩ = some (.int .i64 a0_1) ∧ w32.cell? ⟨gb423, 2, none⟩ = some (.slice A0_2 l0_2.length c0_2) ∧ w32.cell? ⟨gb424, 0, none⟩ = some (.int .i64 a1_0) ∧ w32.cell? ⟨gb424, 1, none⟩ = some (.int .i64 a1_1) ∧ w32.cell? ⟨gb424, 2, none⟩ = some (.slice A1_2 l1_2.length c1_2) := hS_
         refine norm_ (a' := ?_) ?_ ?_
         rotate_left
         · simp only [putAll, Act.put, List.setIfInBounds_toArray, List.set_cons_zero, List.set_cons_succ]; rfl
         refine two_ (i := 3) (j := 4) (Ni := some 26) (Nj := some 5) (zm 8 47) (zm 8 55) rfl rfl rfl rfl (two_of HT_.out (by kernel_rfl)) (by decide) (by decide) (fun K hK => ?_) (fun K hK => ?_)
         ·
          skip
          refine goes_ Tryz.func16 (by kernel_rfl) rfl #[.agg #[.int .i64 a1_0, .int .i64 a1_1, .slice A1_2 l1_2.length c1_2]] (by rfl) rfl rfl (by (try simp only [List.map_toArray, List.map_cons, List.map_nil]); try rfl) ?_
          with_reducible refine (aL_old.calls k a1_0 a1_1 _ _ l1_2 t430 t431 t432 _ ?side1 ?side2 A4.out).mono ?_
          (case side1 => exact zQC HR1_2)
          (case side2 => exact HC1_2.out)
          rintro e w33 ⟨v433, rfl, ho0, hb⟩
          refine ⟨_, rfl, ?_⟩
          replace HO429 := Zs.mk (Kd.V_elder' (zV HO429) (Kd.R_base ho0) hb); have HO434 := Zs.mk (Kd.R_lower ho0 (bsz zB)); replace BK423 := zKb BK423 hb; replace BK424 := zKb BK424 hb; replace BK436 := zKb BK436 hb; replace HB := zBs hb
          refine hK.out _ _ (zJ3 (zC3 BK423) (zC3 BK424)) (fun hHeld => ?_)
          clear hK K
          refine norm_ (a' := ?_) ?_ ?_
          rotate_left
          ·
           show Act.put _ (some 26) _ = _
           simp only [Act.put, z1, z2, z3, i64_w, i32_w]
           rfl
          exact zn (hJ1_3_5 (v428, v433, gb436) _ ⟨hHeld, (by (with_reducible repeat (first | apply Kd.V_alloc | apply Kd.V_drewN | apply Kd.V_drew)); exact Kd.V_mono HO429.out (fun _ hk => ⟨hk.2, ⟨hk.1.1, ⟨hk.1.2.1, hk.1.2.2⟩⟩⟩)), (zR HO434), (zK BK423), (zK BK424), (zK BK436), GW436.out, GE436.out, NB423_436.out, NB436_423.out, NB424_436.out, NB436_424.out, zB⟩)
         ·
          skip
          refine box_step ?hg (N := 5) ?hd (cs := #[.int .i64 0, .int .i64 0, .slice none 0 0]) (t := 36) ?hr ?_; (case hd => rfl); (case hg => rfl); (case hr => first | (go_simp; done) | (go_simp; rfl))
          intro gb435 hg w33 hbox hb; have n0_ := Zs.mk (Kd.V_below (Kd.V_elderB (zV HO429) gb435 (Nat.le_of_eq hg.symm)) hb)
          have n1_ := zKb BK423 hb
          have n2_ := zKb BK424 hb
          have n3_ := zKb BK436 hb
          have n4_ := zBs hb; have n5_ := Zs.mk (hbox); have n6_ := zG (w := w) hg
          have n7_ := zG (w := w) hg
          have n8_ := zN hg (zK BK423)
          have n9_ := zM hg (zK BK423)
          have n10_ := zN hg (zK BK424)
          have n11_ := zM hg (zK BK424)
          have n12_ := zN hg (zK BK436)
          have n13_ := zM hg (zK BK436)
          clear HO429; clear BK423; clear BK424; clear BK436; clear HB; have HO429 := n0_; have BK423 := n1_; have BK424 := n2_; have BK436 := n3_; have HB := n4_; have BK435 := n5_; have GW435 := n6_; have GE435 := n7_; have NB423_435 := n8_; have NB435_423 := n9_; have NB424_435 := n10_; have NB435_424 := n11_; have NB436_435 := n12_; have NB435_436 := n13_; clear n0_ n1_ n2_ n3_ n4_ n5_ n6_ n7_ n8_ n9_ n10_ n11_ n12_ n13_; clear hb hbox hg
          refine hK.out _ _ (zJ3 (zC3 BK423) (zC3 BK424)) (fun hHeld => ?_)
          clear hK K
          refine norm_ (a' := ?_) ?_ ?_
          rotate_left
          ·
           show Act.put _ (some 5) _ = _
           simp only [Act.put, z1, z2, z3, i64_w, i32_w]
           rfl
          exact zn (hJ1_4_5 (v428, gb435, gb436) _ ⟨hHeld, (by (with_reducible repeat (first | apply Kd.V_alloc | apply Kd.V_drewN | apply Kd.V_drew)); exact Kd.V_mono HO429.out (fun _ hk => ⟨hk.1.1, ⟨hk.1.2.1, ⟨hk.2, hk.1.2.2⟩⟩⟩)), (zK BK423), (zK BK424), (zK BK435), (zK BK436), GW435.out, GE435.out, NB423_435.out, NB435_423.out, NB424_435.out, NB435_424.out, NB436_435.out, NB435_436.out, GW436.out, GE436.out, NB423_436.out, NB436_423.out, NB424_436.out, NB436_424.out, zB⟩)
       ·
        skip
        rintro ⟨v428, gb435⟩ w32 ⟨hS_, h0_, h1_, h2_, h3_, h4_, h5_, h6_, h7_, h8_, h9_, h10_⟩
        have n0_ : Zs (Kd.V k47 47 w32 w.heap.size (fun k_ => k_ ≠ gb423 ∧ k_ ≠ gb424 ∧ k_ ≠ gb435) v428 t427) := ⟨h0_⟩; have n1_ : Zs (w32.heap[gb423]? = some (.cells #[.int .i64 a0_0, .int .i64 a0_1, .slice A0_2 l0_2.length c0_2] 27 (0, 0))) := ⟨h1_⟩; have n2_ : Zs (w32.heap[gb424]? = some (.cells #[.int .i64 a1_0, .int .i64 a1_1, .slice A1_2 l1_2.length c1_2] 30 (0, 0))) := ⟨h2_⟩; have n3_ : Zs (w32.heap[gb435]? = some (.cells #[.int .i64 0, .int .i64 0, .slice none 0 0] 36 (0, 0))) := ⟨h3_⟩; have n4_ : Zs (w.heap.size ≤ gb435) := ⟨h4_⟩; have n5_ : Zs (w.heap.size ≤ gb435) := ⟨h5_⟩; have n6_ : Zs (gb423 ≠ gb435) := ⟨h6_⟩; have n7_ : Zs (gb435 ≠ gb423) := ⟨h7_⟩; have n8_ : Zs (gb424 ≠ gb435) := ⟨h8_⟩; have n9_ : Zs (gb435 ≠ gb424) := ⟨h9_⟩; have n10_ : Zs (Below w.heap.size w w32) := ⟨h10_⟩; clear BK423; clear BK424; clear HB; clear h0_ h1_ h2_ h3_ h4_ h5_ h6_ h7_ h8_ h9_ h10_; have HO429 := n0_; have BK423 := n1_; have BK424 := n2_; have BK435 := n3_; have GW435 := n4_; have GE435 := n5_; have NB423_435 := n6_; have NB435_423 := n7_; have NB424_435 := n8_; have NB435_424 := n9_; have HB := n10_; clear n0_ n1_ n2_ n3_ n4_ n5_ n6_ n7_ n8_ n9_ n10_; have hHeld : w32.cell? ⟨gb423, 0, none⟩ = some (.int .i64 a0_0) ∧ w32.cell? ⟨gb423, 1, none⟩ = some (.int .i64 a0_1) ∧ w32.cell? ⟨gb423, 2, none⟩ = some (.slice A0_2 l0_2.length c0_2) ∧ w32.cell? ⟨gb424, 0, none⟩ = some (.int .i64 a1_0) ∧ w32.cell? ⟨gb424, 1, none⟩ = some (.int .i64 a1_1) ∧ w32.cell? ⟨gb424, 2, none⟩ = some (.slice A1_2 l1_2.length c1_2) := hS_
        refine norm_ (a' := ?_) ?_ ?_
        rotate_left
        · simp only [putAll, Act.put, List.setIfInBounds_toArray, List.set_cons_zero, List.set_cons_succ]; rfl
        refine two_ (i := 3) (j := 5) (Ni := some 26) (Nj := some 6) (zm 8 31) (zm 8 55) rfl rfl rfl rfl (two_of HT_.out (by kernel_rfl)) (by decide) (by decide) (fun K hK => ?_) (fun K hK => ?_)
        ·
         skip
         refine goes_ Tryz.func16 (by kernel_rfl) rfl #[.agg #[.int .i64 a1_0, .int .i64 a1_1, .slice A1_2 l1_2.length c1_2]] (by rfl) rfl rfl (by (try simp only [List.map_toArray, List.map_cons, List.map_nil]); try rfl) ?_
         with_reducible refine (aL_old.calls k a1_0 a1_1 _ _ l1_2 t430 t431 t432 _ ?side1 ?side2 A4.out).mono ?_
         (case side1 => exact zQC HR1_2)
         (case side2 => exact HC1_2.out)
         rintro e w33 ⟨v433, rfl, ho0, hb⟩
         refine ⟨_, rfl, ?_⟩
         replace HO429 := Zs.mk (Kd.V_elder' (zV HO429) (Kd.R_base ho0) hb); have HO434 := Zs.mk (Kd.R_lower ho0 (bsz zB)); replace BK423 := zKb BK423 hb; replace BK424 := zKb BK424 hb; replace BK435 := zKb BK435 hb; replace HB := zBs hb
         refine hK.out _ _ (zJ3 (zC3 BK423) (zC3 BK424)) (fun hHeld => ?_)
         clear hK K
         refine norm_ (a' := ?_) ?_ ?_
         rotate_left
         ·
          show Act.put _ (some 26) _ = _
          simp only [Act.put, z1, z2, z3, i64_w, i32_w]
          rfl
         exact zn (hJ1_3_4 (v428, v433, gb435) _ ⟨hHeld, (by (with_reducible repeat (first | apply Kd.V_alloc | apply Kd.V_drewN | apply Kd.V_drew)); exact Kd.V_mono HO429.out (fun _ hk => ⟨hk.2, ⟨hk.1.1, ⟨hk.1.2.1, hk.1.2.2⟩⟩⟩)), (zR HO434), (zK BK423), (zK BK424), (zK BK435), GW435.out, GE435.out, NB423_435.out, NB435_423.out, NB424_435.out, NB435_424.out, zB⟩)
        ·
         skip
         refine box_step ?hg (N := 6) ?hd (cs := #[.int .i64 0, .int .i64 0, .slice none 0 0]) (t := 41) ?hr ?_; (case hd => rfl); (case hg => rfl); (case hr => first | (go_simp; done) | (go_simp; rfl))
         intro gb436 hg w33 hbox hb; have n0_ := Zs.mk (Kd.V_below (Kd.V_elderB (zV HO429) gb436 (Nat.le_of_eq hg.symm)) hb)
         have n1_ := zKb BK423 hb
         have n2_ := zKb BK424 hb
         have n3_ := zKb BK435 hb
         have n4_ := zBs hb; have n5_ := Zs.mk (hbox); have n6_ := zG (w := w) hg
         have n7_ := zG (w := w) hg
         have n8_ := zN hg (zK BK423)
         have n9_ := zM hg (zK BK423)
         have n10_ := zN hg (zK BK424)
         have n11_ := zM hg (zK BK424)
         have n12_ := zN hg (zK BK435)
         have n13_ := zM hg (zK BK435)
         clear HO429; clear BK423; clear BK424; clear BK435; clear HB; have HO429 := n0_; have BK423 := n1_; have BK424 := n2_; have BK435 := n3_; have HB := n4_; have BK436 := n5_; have GW436 := n6_; have GE436 := n7_; have NB423_436 := n8_; have NB436_423 := n9_; have NB424_436 := n10_; have NB436_424 := n11_; have NB435_436 := n12_; have NB436_435 := n13_; clear n0_ n1_ n2_ n3_ n4_ n5_ n6_ n7_ n8_ n9_ n10_ n11_ n12_ n13_; clear hb hbox hg
         refine hK.out _ _ (zJ3 (zC3 BK423) (zC3 BK424)) (fun hHeld => ?_)
         clear hK K
         refine norm_ (a' := ?_) ?_ ?_
         rotate_left
         ·
          show Act.put _ (some 6) _ = _
          simp only [Act.put, z1, z2, z3, i64_w, i32_w]
          rfl
         exact zn (hJ1_4_5 (v428, gb435, gb436) _ ⟨hHeld, (by (with_reducible repeat (first | apply Kd.V_alloc | apply Kd.V_drewN | apply Kd.V_drew)); exact Kd.V_mono HO429.out (fun _ hk => ⟨hk.1.1, ⟨hk.1.2.1, ⟨hk.1.2.2, hk.2⟩⟩⟩)), (zK BK423), (zK BK424), (zK BK435), (zK BK436), GW435.out, GE435.out, NB423_435.out, NB435_423.out, NB424_435.out, NB435_424.out, NB436_435.out, NB435_436.out, GW436.out, GE436.out, NB423_436.out, NB436_423.out, NB424_436.out, NB436_424.out, zB⟩)
      ·
       skip
       rintro ⟨v428, v433⟩ w32 ⟨hS_, h0_, h1_, h2_, h3_, h4_⟩
       have n0_ : Zs (Kd.V k47 47 w32 w.heap.size (fun k_ => some k_ ≠ (v433 : Value).ownBlock ∧ k_ ≠ gb423 ∧ k_ ≠ gb424) v428 t427) := ⟨h0_⟩; have n1_ : Zs (Kd.R k78 78 w32 w.heap.size (fun _ => True) v433 t432) := ⟨h1_⟩; have n2_ : Zs (w32.heap[gb423]? = some (.cells #[.int .i64 a0_0, .int .i64 a0_1, .slice A0_2 l0_2.length c0_2] 27 (0, 0))) := ⟨h2_⟩; have n3_ : Zs (w32.heap[gb424]? = some (.cells #[.int .i64 a1_0, .int .i64 a1_1, .slice A1_2 l1_2.length c1_2] 30 (0, 0))) := ⟨h3_⟩; have n4_ : Zs (Below w.heap.size w w32) := ⟨h4_⟩; clear BK423; clear BK424; clear HB; clear h0_ h1_ h2_ h3_ h4_; have HO429 := n0_; have HO434 := n1_; have BK423 := n2_; have BK424 := n3_; have HB := n4_; clear n0_ n1_ n2_ n3_ n4_; have hHeld : w32.cell? ⟨gb423, 0, none⟩ = some (.int .i64 a0_0) ∧ w32.cell? ⟨gb423, 1, none⟩ = some (.int .i64 a0_1) ∧ w32.cell? ⟨gb423, 2, none⟩ = some (.slice A0_2 l0_2.length c0_2) ∧ w32.cell? ⟨gb424, 0, none⟩ = some (.int .i64 a1_0) ∧ w32.cell? ⟨gb424, 1, none⟩ = some (.int .i64 a1_1) ∧ w32.cell? ⟨gb424, 2, none⟩ = some (.slice A1_2 l1_2.length c1_2) := hS_
       refine norm_ (a' := ?_) ?_ ?_
       rotate_left
       · simp only [putAll, Act.put, List.setIfInBounds_toArray, List.set_cons_zero, List.set_cons_succ]; rfl
       refine two_ (i := 4) (j := 5) (Ni := some 5) (Nj := some 6) (zm 8 31) (zm 8 47) rfl rfl rfl rfl (two_of HT_.out (by kernel_rfl)) (by decide) (by decide) (fun K hK => ?_) (fun K hK => ?_)
       ·
        skip
        refine box_step ?hg (N := 5) ?hd (cs := #[.int .i64 0, .int .i64 0, .slice none 0 0]) (t := 36) ?hr ?_; (case hd => rfl); (case hg => rfl); (case hr => first | (go_simp; done) | (go_simp; rfl))
        intro gb435 hg w33 hbox hb; have n0_ := Zs.mk (Kd.V_below (Kd.V_elderB (zV HO429) gb435 (Nat.le_of_eq hg.symm)) hb)
        have n1_ := zRb HO434 hb
        have n2_ := zKb BK423 hb
        have n3_ := zKb BK424 hb
        have n4_ := zBs hb; have n5_ := Zs.mk (hbox); have n6_ := zG (w := w) hg
        have n7_ := zG (w := w) hg
        have n8_ := zN hg (zK BK423)
        have n9_ := zM hg (zK BK423)
        have n10_ := zN hg (zK BK424)
        have n11_ := zM hg (zK BK424)
        clear HO429; clear HO434; clear BK423; clear BK424; clear HB; have HO429 := n0_; have HO434 := n1_; have BK423 := n2_; have BK424 := n3_; have HB := n4_; have BK435 := n5_; have GW435 := n6_; have GE435 := n7_; have NB423_435 := n8_; have NB435_423 := n9_; have NB424_435 := n10_; have NB435_424 := n11_; clear n0_ n1_ n2_ n3_ n4_ n5_ n6_ n7_ n8_ n9_ n10_ n11_; clear hb hbox hg
        refine hK.out _ _ (zJ3 (zC3 BK423) (zC3 BK424)) (fun hHeld => ?_)
        clear hK K
        refine norm_ (a' := ?_) ?_ ?_
        rotate_left
        ·
         show Act.put _ (some 5) _ = _
         simp only [Act.put, z1, z2, z3, i64_w, i32_w]
         rfl
        exact zn (hJ1_3_4 (v428, v433, gb435) _ ⟨hHeld, (by (with_reducible repeat (first | apply Kd.V_alloc | apply Kd.V_drewN | apply Kd.V_drew)); exact Kd.V_mono HO429.out (fun _ hk => ⟨hk.1.1, ⟨hk.1.2.1, ⟨hk.1.2.2, hk.2⟩⟩⟩)), (zR HO434), (zK BK423), (zK BK424), (zK BK435), GW435.out, GE435.out, NB423_435.out, NB435_423.out, NB424_435.out, NB435_424.out, zB⟩)
       ·
        skip
        refine box_step ?hg (N := 6) ?hd (cs := #[.int .i64 0, .int .i64 0, .slice none 0 0]) (t := 41) ?hr ?_; (case hd => rfl); (case hg => rfl); (case hr => first | (go_simp; done) | (go_simp; rfl))
        intro gb436 hg w33 hbox hb; have n0_ := Zs.mk (Kd.V_below (Kd.V_elderB (zV HO429) gb436 (Nat.le_of_eq hg.symm)) hb)
        have n1_ := zRb HO434 hb
        have n2_ := zKb BK423 hb
        have n3_ := zKb BK424 hb
        have n4_ := zBs hb; have n5_ := Zs.mk (hbox); have n6_ := zG (w := w) hg
        have n7_ := zG (w := w) hg
        have n8_ := zN hg (zK BK423)
        have n9_ := zM hg (zK BK423)
        have n10_ := zN hg (zK BK424)
        have n11_ := zM hg (zK BK424)
        clear HO429; clear HO434; clear BK423; clear BK424; clear HB; have HO429 := n0_; have HO434 := n1_; have BK423 := n2_; have BK424 := n3_; have HB := n4_; have BK436 := n5_; have GW436 := n6_; have GE436 := n7_; have NB423_436 := n8_; have NB436_423 := n9_; have NB424_436 := n10_; have NB436_424 := n11_; clear n0_ n1_ n2_ n3_ n4_ n5_ n6_ n7_ n8_ n9_ n10_ n11_; clear hb hbox hg
        refine hK.out _ _ (zJ3 (zC3 BK423) (zC3 BK424)) (fun hHeld => ?_)
        clear hK K
        refine norm_ (a' := ?_) ?_ ?_
        rotate_left
        ·
         show Act.put _ (some 6) _ = _
         simp only [Act.put, z1, z2, z3, i64_w, i32_w]
         rfl
        exact zn (hJ1_3_5 (v428, v433, gb436) _ ⟨hHeld, (by (with_reducible repeat (first | apply Kd.V_alloc | apply Kd.V_drewN | apply Kd.V_drew)); exact Kd.V_mono HO429.out (fun _ hk => ⟨hk.1.1, ⟨hk.1.2.1, ⟨hk.1.2.2, hk.2⟩⟩⟩)), (zR HO434), (zK BK423), (zK BK424), (zK BK436), GW436.out, GE436.out, NB423_436.out, NB436_423.out, NB424_436.out, NB436_424.out, zB⟩)
     ·
      skip
      rintro ⟨v428, gb435, gb436⟩ w33 ⟨hS_, h0_, h1_, h2_, h3_, h4_, h5_, h6_, h7_, h8_, h9_, h10_, h11_, h12_, h13_, h14_, h15_, h16_, h17_, h18_, h19_⟩
      have n0_ : Zs (Kd.V k47 47 w33 w.heap.size (fun k_ => k_ ≠ gb423 ∧ k_ ≠ gb424 ∧ k_ ≠ gb435 ∧ k_ ≠ gb436) v428 t427) := ⟨h0_⟩; have n1_ : Zs (w33.heap[gb423]? = some (.cells #[.int .i64 a0_0, .int .i64 a0_1, .slice A0_2 l0_2.length c0_2] 27 (0, 0))) := ⟨h1_⟩; have n2_ : Zs (w33.heap[gb424]? = some (.cells #[.int .i64 a1_0, .int .i64 a1_1, .slice A1_2 l1_2.length c1_2] 30 (0, 0))) := ⟨h2_⟩; have n3_ : Zs (w33.heap[gb435]? = some (.cells #[.int .i64 0, .int .i64 0, .slice none 0 0] 36 (0, 0))) := ⟨h3_⟩; have n4_ : Zs (w33.heap[gb436]? = some (.cells #[.int .i64 0, .int .i64 0, .slice none 0 0] 41 (0, 0))) := ⟨h4_⟩; have n5_ : Zs (w.heap.size ≤ gb435) := ⟨h5_⟩; have n6_ : Zs (w.heap.size ≤ gb435) := ⟨h6_⟩; have n7_ : Zs (gb423 ≠ gb435) := ⟨h7_⟩; have n8_ : Zs (gb435 ≠ gb423) := ⟨h8_⟩; have n9_ : Zs (gb424 ≠ gb435) := ⟨h9_⟩; have n10_ : Zs (gb435 ≠ gb424) := ⟨h10_⟩; have n11_ : Zs (gb436 ≠ gb435) := ⟨h11_⟩; have n12_ : Zs (gb435 ≠ gb436) := ⟨h12_⟩; have n13_ : Zs (w.heap.size ≤ gb436) := ⟨h13_⟩; have n14_ : Zs (w.heap.size ≤ gb436) := ⟨h14_⟩; have n15_ : Zs (gb423 ≠ gb436) := ⟨h15_⟩; have n16_ : Zs (gb436 ≠ gb423) := ⟨h16_⟩; have n17_ : Zs (gb424 ≠ gb436) := ⟨h17_⟩; have n18_ : Zs (gb436 ≠ gb424) := ⟨h18_⟩; have n19_ : Zs (Below w.heap.size w w33) := ⟨h19_⟩; clear BK423; clear BK424; clear HB; clear h0_ h1_ h2_ h3_ h4_ h5_ h6_ h7_ h8_ h9_ h10_ h11_ h12_ h13_ h14_ h15_ h16_ h17_ h18_ h19_; have HO429 := n0_; have BK423 := n1_; have BK424 := n2_; have BK435 := n3_; have BK436 := n4_; have GW435 := n5_; have GE435 := n6_; have NB423_435 := n7_; have NB435_423 := n8_; have NB424_435 := n9_; have NB435_424 := n10_; have NB436_435 := n11_; have NB435_436 := n12_; have GW436 := n13_; have GE436 := n14_; have NB423_436 := n15_; have NB436_423 := n16_; have NB424_436 := n17_; have NB436_424 := n18_; have HB := n19_; clear n0_ n1_ n2_ n3_ n4_ n5_ n6_ n7_ n8_ n9_ n10_ n11_ n12_ n13_ n14_ n15_ n16_ n17_ n18_ n19_; have hHeld : w33.cell? ⟨gb423, 0, none⟩ = some (.int .i64 a0_0) ∧ w33.cell? ⟨gb423, 1, none⟩ = some (.int .i64 a0_1) ∧ w33.cell? ⟨gb423, 2, none⟩ = some (.slice A0_2 l0_2.length c0_2) ∧ w33.cell? ⟨gb424, 0, none⟩ = some (.int .i64 a1_0) ∧ w33.cell? ⟨gb424, 1, none⟩ = some (.int .i64 a1_1) ∧ w33.cell? ⟨gb424, 2, none⟩ = some (.slice A1_2 l1_2.length c1_2) := hS_
      refine norm_ (a' := ?_) ?_ ?_
      rotate_left
      · simp only [putAll, Act.put, List.setIfInBounds_toArray, List.set_cons_zero, List.set_cons_succ]; rfl
      refine one_ (i := 3) (N := some 26) (zm 8 63) rfl rfl (one_of HT_.out (by kernel_rfl)) (by decide) (fun K hK => ?_)
      refine goes_ Tryz.func16 (by kernel_rfl) rfl #[.agg #[.int .i64 a1_0, .int .i64 a1_1, .slice A1_2 l1_2.length c1_2]] (by rfl) rfl rfl (by (try simp only [List.map_toArray, List.map_cons, List.map_nil]); try rfl) ?_
      with_reducible refine (aL_old.calls k a1_0 a1_1 _ _ l1_2 t430 t431 t432 _ ?side1 ?side2 A4.out).mono ?_
      (case side1 => exact zQC HR1_2)
      (case side2 => exact HC1_2.out)
      rintro e w34 ⟨v433, rfl, ho0, hb⟩
      refine ⟨_, rfl, ?_⟩
      replace HO429 := Zs.mk (Kd.V_elder' (zV HO429) (Kd.R_base ho0) hb); have HO434 := Zs.mk (Kd.R_lower ho0 (bsz zB)); replace BK423 := zKb BK423 hb; replace BK424 := zKb BK424 hb; replace BK435 := zKb BK435 hb; replace BK436 := zKb BK436 hb; replace HB := zBs hb
      refine hK.out _ _ (zJ3 (zC3 BK423) (zC3 BK424)) (fun hHeld => ?_)
      clear hK K
      refine norm_ (a' := ?_) ?_ ?_
      rotate_left
      ·
       show Act.put _ (some 26) _ = _
       simp only [Act.put, z1, z2, z3, i64_w, i32_w]
       rfl
      exact zn (hJ1_3_4_5 (v428, v433, gb435, gb436) _ ⟨hHeld, (by (with_reducible repeat (first | apply Kd.V_alloc | apply Kd.V_drewN | apply Kd.V_drew)); exact Kd.V_mono HO429.out (fun _ hk => ⟨hk.2, ⟨hk.1.1, ⟨hk.1.2.1, ⟨hk.1.2.2.1, hk.1.2.2.2⟩⟩⟩⟩)), (zR HO434), (zK BK423), (zK BK424), (zK BK435), (zK BK436), GW435.out, GE435.out, NB423_435.out, NB435_423.out, NB424_435.out, NB435_424.out, NB436_435.out, NB435_436.out, GW436.out, GE436.out, NB423_436.out, NB436_423.out, NB424_436.out, NB436_424.out, zB⟩)
    ·
     skip
     rintro ⟨v428, v433, gb436⟩ w33 ⟨hS_, h0_, h1_, h2_, h3_, h4_, h5_, h6_, h7_, h8_, h9_, h10_, h11_⟩
     have n0_ : Zs (Kd.V k47 47 w33 w.heap.size (fun k_ => some k_ ≠ (v433 : Value).ownBlock ∧ k_ ≠ gb423 ∧ k_ ≠ gb424 ∧ k_ ≠ gb436) v428 t427) := ⟨h0_⟩; have n1_ : Zs (Kd.R k78 78 w33 w.heap.size (fun _ => True) v433 t432) := ⟨h1_⟩; have n2_ : Zs (w33.heap[gb423]? = some (.cells #[.int .i64 a0_0, .int .i64 a0_1, .slice A0_2 l0_2.length c0_2] 27 (0, 0))) := ⟨h2_⟩; have n3_ : Zs (w33.heap[gb424]? = some (.cells #[.int .i64 a1_0, .int .i64 a1_1, .slice A1_2 l1_2.length c1_2] 30 (0, 0))) := ⟨h3_⟩; have n4_ : Zs (w33.heap[gb436]? = some (.cells #[.int .i64 0, .int .i64 0, .slice none 0 0] 41 (0, 0))) := ⟨h4_⟩; have n5_ : Zs (w.heap.size ≤ gb436) := ⟨h5_⟩; have n6_ : Zs (w.heap.size ≤ gb436) := ⟨h6_⟩; have n7_ : Zs (gb423 ≠ gb436) := ⟨h7_⟩; have n8_ : Zs (gb436 ≠ gb423) := ⟨h8_⟩; have n9_ : Zs (gb424 ≠ gb436) := ⟨h9_⟩; have n10_ : Zs (gb436 ≠ gb424) := ⟨h10_⟩; have n11_ : Zs (Below w.heap.size w w33) := ⟨h11_⟩; clear BK423; clear BK424; clear HB; clear h0_ h1_ h2_ h3_ h4_ h5_ h6_ h7_ h8_ h9_ h10_ h11_; have HO429 := n0_; have HO434 := n1_; have BK423 := n2_; have BK424 := n3_; have BK436 := n4_; have GW436 := n5_; have GE436 := n6_; have NB423_436 := n7_; have NB436_423 := n8_; have NB424_436 := n9_; have NB436_424 := n10_; have HB := n11_; clear n0_ n1_ n2_ n3_ n4_ n5_ n6_ n7_ n8_ n9_ n10_ n11_; have hHeld : w33.cell? ⟨gb423, 0, none⟩ = some (.int .i64 a0_0) ∧ w33.cell? ⟨gb423, 1, none⟩ = some (.int .i64 a0_1) ∧ w33.cell? ⟨gb423, 2, none⟩ = some (.slice A0_2 l0_2.length c0_2) ∧ w33.cell? ⟨gb424, 0, none⟩ = some (.int .i64 a1_0) ∧ w33.cell? ⟨gb424, 1, none⟩ = some (.int .i64 a1_1) ∧ w33.cell? ⟨gb424, 2, none⟩ = some (.slice A1_2 l1_2.length c1_2) := hS_
     refine norm_ (a' := ?_) ?_ ?_
     rotate_left
     · simp only [putAll, Act.put, List.setIfInBounds_toArray, List.set_cons_zero, List.set_cons_succ]; rfl
     refine one_ (i := 4) (N := some 5) (zm 8 63) rfl rfl (one_of HT_.out (by kernel_rfl)) (by decide) (fun K hK => ?_)
     refine box_step ?hg (N := 5) ?hd (cs := #[.int .i64 0, .int .i64 0, .slice none 0 0]) (t := 36) ?hr ?_; (case hd => rfl); (case hg => rfl); (case hr => first | (go_simp; done) | (go_simp; rfl))
     intro gb435 hg w34 hbox hb; have n0_ := Zs.mk (Kd.V_below (Kd.V_elderB (zV HO429) gb435 (Nat.le_of_eq hg.symm)) hb)
     have n1_ := zRb HO434 hb
     have n2_ := zKb BK423 hb
     have n3_ := zKb BK424 hb
     have n4_ := zKb BK436 hb
     have n5_ := zBs hb; have n6_ := Zs.mk (hbox); have n7_ := zG (w := w) hg
     have n8_ := zG (w := w) hg
     have n9_ := zN hg (zK BK423)
     have n10_ := zM hg (zK BK423)
     have n11_ := zN hg (zK BK424)
     have n12_ := zM hg (zK BK424)
     have n13_ := zN hg (zK BK436)
     have n14_ := zM hg (zK BK436)
     clear HO429; clear HO434; clear BK423; clear BK424; clear BK436; clear HB; have HO429 := n0_; have HO434 := n1_; have BK423 := n2_; have BK424 := n3_; have BK436 := n4_; have HB := n5_; have BK435 := n6_; have GW435 := n7_; have GE435 := n8_; have NB423_435 := n9_; have NB435_423 := n10_; have NB424_435 := n11_; have NB435_424 := n12_; have NB436_435 := n13_; have NB435_436 := n14_; clear n0_ n1_ n2_ n3_ n4_ n5_ n6_ n7_ n8_ n9_ n10_ n11_ n12_ n13_ n14_; clear hb hbox hg
     refine hK.out _ _ (zJ3 (zC3 BK423) (zC3 BK424)) (fun hHeld => ?_)
     clear hK K
     refine norm_ (a' := ?_) ?_ ?_
     rotate_left
     ·
      show Act.put _ (some 5) _ = _
      simp only [Act.put, z1, z2, z3, i64_w, i32_w]
      rfl
     exact zn (hJ1_3_4_5 (v428, v433, gb435, gb436) _ ⟨hHeld, (by (with_reducible repeat (first | apply Kd.V_alloc | apply Kd.V_drewN | apply Kd.V_drew)); exact Kd.V_mono HO429.out (fun _ hk => ⟨hk.1.1, ⟨hk.1.2.1, ⟨hk.1.2.2.1, ⟨hk.2, hk.1.2.2.2⟩⟩⟩⟩)), (zR HO434), (zK BK423), (zK BK424), (zK BK435), (zK BK436), GW435.out, GE435.out, NB423_435.out, NB435_423.out, NB424_435.out, NB435_424.out, NB436_435.out, NB435_436.out, GW436.out, GE436.out, NB423_436.out, NB436_423.out, NB424_436.out, NB436_424.out, zB⟩)
   ·
    skip
    rintro ⟨v428, v433, gb435⟩ w33 ⟨hS_, h0_, h1_, h2_, h3_, h4_, h5_, h6_, h7_, h8_, h9_, h10_, h11_⟩
    have n0_ : Zs (Kd.V k47 47 w33 w.heap.size (fun k_ => some k_ ≠ (v433 : Value).ownBlock ∧ k_ ≠ gb423 ∧ k_ ≠ gb424 ∧ k_ ≠ gb435) v428 t427) := ⟨h0_⟩; have n1_ : Zs (Kd.R k78 78 w33 w.heap.size (fun _ => True) v433 t432) := ⟨h1_⟩; have n2_ : Zs (w33.heap[gb423]? = some (.cells #[.int .i64 a0_0, .int .i64 a0_1, .slice A0_2 l0_2.length c0_2] 27 (0, 0))) := ⟨h2_⟩; have n3_ : Zs (w33.heap[gb424]? = some (.cells #[.int .i64 a1_0, .int .i64 a1_1, .slice A1_2 l1_2.length c1_2] 30 (0, 0))) := ⟨h3_⟩; have n4_ : Zs (w33.heap[gb435]? = some (.cells #[.int .i64 0, .int .i64 0, .slice none 0 0] 36 (0, 0))) := ⟨h4_⟩; have n5_ : Zs (w.heap.size ≤ gb435) := ⟨h5_⟩; have n6_ : Zs (w.heap.size ≤ gb435) := ⟨h6_⟩; have n7_ : Zs (gb423 ≠ gb435) := ⟨h7_⟩; have n8_ : Zs (gb435 ≠ gb423) := ⟨h8_⟩; have n9_ : Zs (gb424 ≠ gb435) := ⟨h9_⟩; have n10_ : Zs (gb435 ≠ gb424) := ⟨h10_⟩; have n11_ : Zs (Below w.heap.size w w33) := ⟨h11_⟩; clear BK423; clear BK424; clear HB; clear h0_ h1_ h2_ h3_ h4_ h5_ h6_ h7_ h8_ h9_ h10_ h11_; have HO429 := n0_; have HO434 := n1_; have BK423 := n2_; have BK424 := n3_; have BK435 := n4_; have GW435 := n5_; have GE435 := n6_; have NB423_435 := n7_; have NB435_423 := n8_; have NB424_435 := n9_; have NB435_424 := n10_; have HB := n11_; clear n0_ n1_ n2_ n3_ n4_ n5_ n6_ n7_ n8_ n9_ n10_ n11_; have hHeld : w33.cell? ⟨gb423, 0, none⟩ = some (.int .i64 a0_0) ∧ w33.cell? ⟨gb423, 1, none⟩ = some (.int .i64 a0_1) ∧ w33.cell? ⟨gb423, 2, none⟩ = some (.slice A0_2 l0_2.length c0_2) ∧ w33.cell? ⟨gb424, 0, none⟩ = some (.int .i64 a1_0) ∧ w33.cell? ⟨gb424, 1, none⟩ = some (.int .i64 a1_1) ∧ w33.cell? ⟨gb424, 2, none⟩ = some (.slice A1_2 l1_2.length c1_2) := hS_
    refine norm_ (a' := ?_) ?_ ?_
    rotate_left
    · simp only [putAll, Act.put, List.setIfInBounds_toArray, List.set_cons_zero, List.set_cons_succ]; rfl
    refine one_ (i := 5) (N := some 6) (zm 8 63) rfl rfl (one_of HT_.out (by kernel_rfl)) (by decide) (fun K hK => ?_)
    refine box_step ?hg (N := 6) ?hd (cs := #[.int .i64 0, .int .i64 0, .slice none 0 0]) (t := 41) ?hr ?_; (case hd => rfl); (case hg => rfl); (case hr => first | (go_simp; done) | (go_simp; rfl))
    intro gb436 hg w34 hbox hb; have n0_ := Zs.mk (Kd.V_below (Kd.V_elderB (zV HO429) gb436 (Nat.le_of_eq hg.symm)) hb)
    have n1_ := zRb HO434 hb
    have n2_ := zKb BK423 hb
    have n3_ := zKb BK424 hb
    have n4_ := zKb BK435 hb
    have n5_ := zBs hb; have n6_ := Zs.mk (hbox); have n7_ := zG (w := w) hg
    have n8_ := zG (w := w) hg
    have n9_ := zN hg (zK BK423)
    have n10_ := zM hg (zK BK423)
    have n11_ := zN hg (zK BK424)
    have n12_ := zM hg (zK BK424)
    have n13_ := zN hg (zK BK435)
    have n14_ := zM hg (zK BK435)
    clear HO429; clear HO434; clear BK423; clear BK424; clear BK435; clear HB; have HO429 := n0_; have HO434 := n1_; have BK423 := n2_; have BK424 := n3_; have BK435 := n4_; have HB := n5_; have BK436 := n6_; have GW436 := n7_; have GE436 := n8_; have NB423_436 := n9_; have NB436_423 := n10_; have NB424_436 := n11_; have NB436_424 := n12_; have NB435_436 := n13_; have NB436_435 := n14_; clear n0_ n1_ n2_ n3_ n4_ n5_ n6_ n7_ n8_ n9_ n10_ n11_ n12_ n13_ n14_; clear hb hbox hg
    refine hK.out _ _ (zJ3 (zC3 BK423) (zC3 BK424)) (fun hHeld => ?_)
    clear hK K
    refine norm_ (a' := ?_) ?_ ?_
    rotate_left
    ·
     show Act.put _ (some 6) _ = _
     simp only [Act.put, z1, z2, z3, i64_w, i32_w]
     rfl
    exact zn (hJ1_3_4_5 (v428, v433, gb435, gb436) _ ⟨hHeld, (by (with_reducible repeat (first | apply Kd.V_alloc | apply Kd.V_drewN | apply Kd.V_drew)); exact Kd.V_mono HO429.out (fun _ hk => ⟨hk.1.1, ⟨hk.1.2.1, ⟨hk.1.2.2.1, ⟨hk.1.2.2.2, hk.2⟩⟩⟩⟩)), (zR HO434), (zK BK423), (zK BK424), (zK BK435), (zK BK436), GW435.out, GE435.out, NB423_435.out, NB435_423.out, NB424_435.out, NB435_424.out, NB436_435.out, NB435_436.out, GW436.out, GE436.out, NB423_436.out, NB436_423.out, NB424_436.out, NB436_424.out, zB⟩)
  rintro ⟨v428, v433, gb435, gb436⟩ w34 ⟨hS_, h0_, h1_, h2_, h3_, h4_, h5_, h6_, h7_, h8_, h9_, h10_, h11_, h12_, h13_, h14_, h15_, h16_, h17_, h18_, h19_, h20_⟩
  have n0_ : Zs (Kd.V k47 47 w34 w.heap.size (fun k_ => some k_ ≠ (v433 : Value).ownBlock ∧ k_ ≠ gb423 ∧ k_ ≠ gb424 ∧ k_ ≠ gb435 ∧ k_ ≠ gb436) v428 t427) := ⟨h0_⟩; have n1_ : Zs (Kd.R k78 78 w34 w.heap.size (fun _ => True) v433 t432) := ⟨h1_⟩; have n2_ : Zs (w34.heap[gb423]? = some (.cells #[.int .i64 a0_0, .int .i64 a0_1, .slice A0_2 l0_2.length c0_2] 27 (0, 0))) := ⟨h2_⟩; have n3_ : Zs (w34.heap[gb424]? = some (.cells #[.int .i64 a1_0, .int .i64 a1_1, .slice A1_2 l1_2.length c1_2] 30 (0, 0))) := ⟨h3_⟩; have n4_ : Zs (w34.heap[gb435]? = some (.cells #[.int .i64 0, .int .i64 0, .slice none 0 0] 36 (0, 0))) := ⟨h4_⟩; have n5_ : Zs (w34.heap[gb436]? = some (.cells #[.int .i64 0, .int .i64 0, .slice none 0 0] 41 (0, 0))) := ⟨h5_⟩; have n6_ : Zs (w.heap.size ≤ gb435) := ⟨h6_⟩; have n7_ : Zs (w.heap.size ≤ gb435) := ⟨h7_⟩; have n8_ : Zs (gb423 ≠ gb435) := ⟨h8_⟩; have n9_ : Zs (gb435 ≠ gb423) := ⟨h9_⟩; have n10_ : Zs (gb424 ≠ gb435) := ⟨h10_⟩; have n11_ : Zs (gb435 ≠ gb424) := ⟨h11_⟩; have n12_ : Zs (gb436 ≠ gb435) := ⟨h12_⟩; have n13_ : Zs (gb435 ≠ gb436) := ⟨h13_⟩; have n14_ : Zs (w.heap.size ≤ gb436) := ⟨h14_⟩; have n15_ : Zs (w.heap.size ≤ gb436) := ⟨h15_⟩; have n16_ : Zs (gb423 ≠ gb436) := ⟨h16_⟩; have n17_ : Zs (gb436 ≠ gb423) := ⟨h17_⟩; have n18_ : Zs (gb424 ≠ gb436) := ⟨h18_⟩; have n19_ : Zs (gb436 ≠ gb424) := ⟨h19_⟩; have n20_ : Zs (Below w.heap.size w w34) := ⟨h20_⟩; clear BK423; clear BK424; clear HB; clear h0_ h1_ h2_ h3_ h4_ h5_ h6_ h7_ h8_ h9_ h10_ h11_ h12_ h13_ h14_ h15_ h16_ h17_ h18_ h19_ h20_; have HO429 := n0_; have HO434 := n1_; have BK423 := n2_; have BK424 := n3_; have BK435 := n4_; have BK436 := n5_; have GW435 := n6_; have GE435 := n7_; have NB423_435 := n8_; have NB435_423 := n9_; have NB424_435 := n10_; have NB435_424 := n11_; have NB436_435 := n12_; have NB435_436 := n13_; have GW436 := n14_; have GE436 := n15_; have NB423_436 := n16_; have NB436_423 := n17_; have NB424_436 := n18_; have NB436_424 := n19_; have HB := n20_; clear n0_ n1_ n2_ n3_ n4_ n5_ n6_ n7_ n8_ n9_ n10_ n11_ n12_ n13_ n14_ n15_ n16_ n17_ n18_ n19_ n20_; have hHeld : w34.cell? ⟨gb423, 0, none⟩ = some (.int .i64 a0_0) ∧ w34.cell? ⟨gb423, 1, none⟩ = some (.int .i64 a0_1) ∧ w34.cell? ⟨gb423, 2, none⟩ = some (.slice A0_2 l0_2.length c0_2) ∧ w34.cell? ⟨gb424, 0, none⟩ = some (.int .i64 a1_0) ∧ w34.cell? ⟨gb424, 1, none⟩ = some (.int .i64 a1_1) ∧ w34.cell? ⟨gb424, 2, none⟩ = some (.slice A1_2 l1_2.length c1_2) := hS_; obtain ⟨Ao37, co37, eo37⟩ := Kd.V_slice HO429.out
  (first | subst eo37 | (injection eo37 with f1_ f2_ f3_; have f4_ := f1_.symm; have f5_ := f3_.symm; clear f1_ f2_ f3_; subst f4_; subst f5_))
  obtain ⟨Ao41, co41, eo41⟩ := Kd.R_slice HO434.out
  (first | subst eo41 | (injection eo41 with f1_ f2_ f3_; have f4_ := f1_.symm; have f5_ := f3_.symm; clear f1_ f2_ f3_; subst f4_; subst f5_))
  refine norm_ (a' := ?_) ?_ ?_
  rotate_left
  · simp only [putAll, Act.put, List.setIfInBounds_toArray, List.set_cons_zero, List.set_cons_succ]; rfl
  refine one_ (i := 6) (N := none) (zm 8 127) rfl rfl (one_of HT_.out (by kernel_rfl)) (by decide) (fun K hK => ?_)
  have hs35 : w34.cell? ⟨gb435, 0, none⟩ = some (.int .i64 0) := (bkc BK435.out 0).trans rfl; have hfs35 := bkf BK435.out 0; have hns35_0 := NB423_435.out; have hns35_1 := NB424_435.out; have hns35_3 := NB436_435.out; have hms35_0 := NB435_423.out; have hms35_1 := NB435_424.out; have hms35_3 := NB435_436.out; have hs36 : w34.cell? ⟨gb435, 1, none⟩ = some (.int .i64 0) := (bkc BK435.out 1).trans rfl; have hfs36 := bkf BK435.out 1; have hns36_0 := NB423_435.out; have hns36_1 := NB424_435.out; have hns36_3 := NB436_435.out; have hms36_0 := NB435_423.out; have hms36_1 := NB435_424.out; have hms36_3 := NB435_436.out; have hs38 : w34.cell? ⟨gb435, 2, none⟩ = some (.slice none 0 0) := (bkc BK435.out 2).trans rfl; have hfs38 := bkf BK435.out 2; have hns38_0 := NB423_435.out; have hns38_1 := NB424_435.out; have hns38_3 := NB436_435.out; have hms38_0 := NB435_423.out; have hms38_1 := NB435_424.out; have hms38_3 := NB435_436.out
  refine skip_ (w1 := ?_) (by rfl) rfl ?_ ?_
  rotate_left
  · go_simp; rfl
  refine hK.out _ _ ⟨((cfr (p := ⟨gb435, _, none⟩) NB423_435.out _).trans (((cfr (p := ⟨gb435, _, none⟩) NB423_435.out _).trans (((cfr (p := ⟨gb435, _, none⟩) NB423_435.out _).trans (hHeld.1)))))), ((cfr (p := ⟨gb435, _, none⟩) NB423_435.out _).trans (((cfr (p := ⟨gb435, _, none⟩) NB423_435.out _).trans (((cfr (p := ⟨gb435, _, none⟩) NB423_435.out _).trans (hHeld.2.1)))))), ((cfr (p := ⟨gb435, _, none⟩) NB423_435.out _).trans (((cfr (p := ⟨gb435, _, none⟩) NB423_435.out _).trans (((cfr (p := ⟨gb435, _, none⟩) NB423_435.out _).trans (hHeld.2.2.1)))))), ((cfr (p := ⟨gb435, _, none⟩) NB424_435.out _).trans (((cfr (p := ⟨gb435, _, none⟩) NB424_435.out _).trans (((cfr (p := ⟨gb435, _, none⟩) NB424_435.out _).trans (hHeld.2.2.2.1)))))), ((cfr (p := ⟨gb435, _, none⟩) NB424_435.out _).trans (((cfr (p := ⟨gb435, _, none⟩) NB424_435.out _).trans (((cfr (p := ⟨gb435, _, none⟩) NB424_435.out _).trans (hHeld.2.2.2.2.1)))))), ((cfr (p := ⟨gb435, _, none⟩) NB424_435.out _).trans (((cfr (p := ⟨gb435, _, none⟩) NB424_435.out _).trans (((cfr (p := ⟨gb435, _, none⟩) NB424_435.out _).trans (hHeld.2.2.2.2.2))))))⟩ (fun hHeld => ?_)
  clear hK K
  refine one_ (i := 7) (N := none) (zm 8 255) rfl rfl (one_of HT_.out (by kernel_rfl)) (by decide) (fun K hK => ?_)
  have hs39 : w34.cell? ⟨gb436, 0, none⟩ = some (.int .i64 0) := (bkc BK436.out 0).trans rfl; have hfs39 := bkf BK436.out 0; have hns39_0 := NB423_436.out; have hns39_1 := NB424_436.out; have hns39_2 := NB435_436.out; have hms39_0 := NB436_423.out; have hms39_1 := NB436_424.out; have hms39_2 := NB436_435.out; have hs40 : w34.cell? ⟨gb436, 1, none⟩ = some (.int .i64 0) := (bkc BK436.out 1).trans rfl; have hfs40 := bkf BK436.out 1; have hns40_0 := NB423_436.out; have hns40_1 := NB424_436.out; have hns40_2 := NB435_436.out; have hms40_0 := NB436_423.out; have hms40_1 := NB436_424.out; have hms40_2 := NB436_435.out; have hs42 : w34.cell? ⟨gb436, 2, none⟩ = some (.slice none 0 0) := (bkc BK436.out 2).trans rfl; have hfs42 := bkf BK436.out 2; have hns42_0 := NB423_436.out; have hns42_1 := NB424_436.out; have hns42_2 := NB435_436.out; have hms42_0 := NB436_423.out; have hms42_1 := NB436_424.out; have hms42_2 := NB436_435.out
  refine skip_ (w1 := ?_) (by rfl) rfl ?_ ?_
  rotate_left
  · go_simp; rfl
  refine hK.out _ _ ⟨((cfr (p := ⟨gb436, _, none⟩) NB423_436.out _).trans (((cfr (p := ⟨gb436, _, none⟩) NB423_436.out _).trans (((cfr (p := ⟨gb436, _, none⟩) NB423_436.out _).trans (hHeld.1)))))), ((cfr (p := ⟨gb436, _, none⟩) NB423_436.out _).trans (((cfr (p := ⟨gb436, _, none⟩) NB423_436.out _).trans (((cfr (p := ⟨gb436, _, none⟩) NB423_436.out _).trans (hHeld.2.1)))))), ((cfr (p := ⟨gb436, _, none⟩) NB423_436.out _).trans (((cfr (p := ⟨gb436, _, none⟩) NB423_436.out _).trans (((cfr (p := ⟨gb436, _, none⟩) NB423_436.out _).trans (hHeld.2.2.1)))))), ((cfr (p := ⟨gb436, _, none⟩) NB424_436.out _).trans (((cfr (p := ⟨gb436, _, none⟩) NB424_436.out _).trans (((cfr (p := ⟨gb436, _, none⟩) NB424_436.out _).trans (hHeld.2.2.2.1)))))), ((cfr (p := ⟨gb436, _, none⟩) NB424_436.out _).trans (((cfr (p := ⟨gb436, _, none⟩) NB424_436.out _).trans (((cfr (p := ⟨gb436, _, none⟩) NB424_436.out _).trans (hHeld.2.2.2.2.1)))))), ((cfr (p := ⟨gb436, _, none⟩) NB424_436.out _).trans (((cfr (p := ⟨gb436, _, none⟩) NB424_436.out _).trans (((cfr (p := ⟨gb436, _, none⟩) NB424_436.out _).trans (hHeld.2.2.2.2.2))))))⟩ (fun hHeld => ?_)
  clear hK K
  refine done_ (done_of HT_.out (by kernel_rfl)) ?_
  have hnb43 := NB423_424.out; have hnc43 := NB424_423.out; have hnb44 := NB423_435.out; have hnc44 := NB435_423.out; have hnb45 := NB423_436.out; have hnc45 := NB436_423.out; obtain ⟨hcz46_0, hcz46_1, hcz46_2⟩ := zC3 BK423; obtain ⟨hfz46_0, hfz46_1, hfz46_2⟩ := zZ3 BK423
  try go_wp2_with (first | ((with_reducible refine gkc (f := 26) rfl ?_); refine zgo (some 29) Tryz.func26 #[.agg #[.int .i64 a0_0, .int .i64 a0_1, .slice A0_2 l0_2.length c0_2]] ?_; (with_reducible refine (bank_Total.calls k a0_0 a0_1 _ _ l0_2 t437 t438 _ ?side1 ?side2 A5.out).mono ?_); (case side1 => exact Kd.C_below HR0_2.out zB); (case side2 => exact HC0_2.out); rintro e w47 ⟨rfl, hb⟩; refine ⟨_, rfl, ?_⟩; replace HO429 := Zs.mk (Kd.V_below (by (with_reducible repeat (first | apply Kd.V_alloc | apply Kd.V_drewN | apply Kd.V_drew)); exact (Kd.V_mono (Kd.V_mono (Kd.V_far (p := ⟨gb436, 2, none⟩) (Kd.V_far (p := ⟨gb436, 1, none⟩) (Kd.V_far (p := ⟨gb436, 0, none⟩) (Kd.V_far (p := ⟨gb435, 2, none⟩) (Kd.V_far (p := ⟨gb435, 1, none⟩) (Kd.V_far (p := ⟨gb435, 0, none⟩) (Kd.V_mono (Kd.V_mono HO429.out (fun k_ hk => (⟨hk, hk.2.2.2.1⟩ : _ ∧ k_ ≠ gb435))) (fun k_ hk => (⟨hk, hk.1.2.2.2.2⟩ : _ ∧ k_ ≠ gb436))) (fun _ hk => hk.1.2) (.int .i64 t425)) (fun _ hk => hk.1.2) (.int .i64 t426)) (fun _ hk => hk.1.2) (.slice Ao37 t427.length co37)) (fun _ hk => hk.2) (.int .i64 t430)) (fun _ hk => hk.2) (.int .i64 t431)) (fun _ hk => hk.2) (.slice Ao41 t432.length co41)) (fun _ h_ => h_.1)) (fun _ h_ => h_.1))) hb); replace HO434 := Zs.mk (Kd.R_below (by (with_reducible repeat (first | apply Kd.Ral | apply Kd.Rdn | apply Kd.Rdw)); exact (Kd.R_mono (Kd.R_mono (Kd.R_far (p := ⟨gb436, 2, none⟩) (Kd.R_far (p := ⟨gb436, 1, none⟩) (Kd.R_far (p := ⟨gb436, 0, none⟩) (Kd.R_far (p := ⟨gb435, 2, none⟩) (Kd.R_far (p := ⟨gb435, 1, none⟩) (Kd.R_far (p := ⟨gb435, 0, none⟩) (Kd.Rty (Kd.Rty HO434.out BK435.out (by decide)) BK436.out (by decide)) (fun _ hk => hk.1.2) (.int .i64 t425)) (fun _ hk => hk.1.2) (.int .i64 t426)) (fun _ hk => hk.1.2) (.slice Ao37 t427.length co37)) (fun _ hk => hk.2) (.int .i64 t430)) (fun _ hk => hk.2) (.int .i64 t431)) (fun _ hk => hk.2) (.slice Ao41 t432.length co41)) (fun _ h_ => h_.1)) (fun _ h_ => h_.1))) hb); replace BK423 := Zs.mk (blk_below (zF BK423) hb); replace BK424 := Zs.mk (blk_below (zF BK424) hb); replace BK435 := Zs.mk (blk_below (g := gb435) (o := .cells #[.int .i64 t425, .int .i64 t426, .slice Ao37 t427.length co37] 36 (0, 0)) (zY BK435) hb); replace BK436 := Zs.mk (blk_below (g := gb436) (o := .cells #[.int .i64 t430, .int .i64 t431, .slice Ao41 t432.length co41] 41 (0, 0)) (zY BK436) hb); replace HB := zBs hb; have hnb48 := NB435_424.out; have hnc48 := NB424_435.out; have hnb49 := NB435_436.out; have hnc49 := NB436_435.out; obtain ⟨hcz50_0, hcz50_1, hcz50_2⟩ := zC3 BK435; obtain ⟨hfz50_0, hfz50_1, hfz50_2⟩ := zZ3 BK435) | ((with_reducible refine gkc (f := 39) rfl ?_); refine zgo (some 34) Tryz.func39 #[.agg #[.int .i64 t425, .int .i64 t426, .slice Ao37 t427.length co37]] ?_; (with_reducible refine (aR_Total.calls k t425 t426 _ _ t427 t439 t440 _ ?side1 ?side2 A6.out).mono ?_); (case side1 => repeat (first | exact (Kd.V_reads' HO429.out).2.2 | (with_reducible refine Kd.C_alloc ?_ _) | (with_reducible refine Kd.C_drewN ?_ _) | (with_reducible refine Kd.C_drew ?_))); (case side2 => exact (Kd.V_reads' HO429.out).2.1); rintro e w51 ⟨rfl, hb⟩; refine ⟨_, rfl, ?_⟩; replace HO429 := Zs.mk (Kd.V_below (zV HO429) hb); replace HO434 := zRb HO434 hb; replace BK423 := zKb BK423 hb; replace BK424 := zKb BK424 hb; replace BK435 := zKb BK435 hb; replace BK436 := zKb BK436 hb; replace HB := zBs hb; obtain ⟨hcz52_0, hcz52_1, hcz52_2⟩ := zC3 BK423; obtain ⟨hfz52_0, hfz52_1, hfz52_2⟩ := zZ3 BK423) | ((with_reducible refine gkc (f := 23) rfl ?_); refine zgo (some 39) Tryz.func23 #[.agg #[.int .i64 a0_0, .int .i64 a0_1, .slice A0_2 l0_2.length c0_2]] ?_; (with_reducible refine (bank_Write.calls k a0_0 a0_1 _ _ l0_2 t441 t442 _ ?side1 ?side2 ?side3 A7.out).mono ?_); (case side1 => exact zQC HR0_2); (case side2 => exact HC0_2.out); (case side3 => exact GG.below HG.out zB); rintro e w53 ⟨rfl, hb⟩; refine ⟨_, rfl, ?_⟩; replace HO429 := Zs.mk (Kd.V_below (zV HO429) hb); replace HO434 := zRb HO434 hb; replace BK423 := zKb BK423 hb; replace BK424 := zKb BK424 hb; replace BK435 := zKb BK435 hb; replace BK436 := zKb BK436 hb; replace HB := zBs hb; obtain ⟨hcz54_0, hcz54_1, hcz54_2⟩ := zC3 BK435; obtain ⟨hfz54_0, hfz54_1, hfz54_2⟩ := zZ3 BK435) | ((with_reducible refine gkc (f := 13) rfl ?_); refine zgo (some 44) Tryz.func13 #[.agg #[.int .i64 t425, .int .i64 t426, .slice Ao37 t427.length co37]] ?_; (with_reducible refine (aR_Write.calls k t425 t426 _ _ t427 t443 t444 _ ?side1 ?side2 A8.out).mono ?_); (case side1 => repeat (first | exact (Kd.V_reads' HO429.out).2.2 | (with_reducible refine Kd.C_alloc ?_ _) | (with_reducible refine Kd.C_drewN ?_ _) | (with_reducible refine Kd.C_drew ?_))); (case side2 => exact (Kd.V_reads' HO429.out).2.1); rintro e w55 ⟨rfl, hb⟩; refine ⟨_, rfl, ?_⟩; replace HO429 := Zs.mk (Kd.V_below (zV HO429) hb); replace HO434 := zRb HO434 hb; replace BK423 := zKb BK423 hb; replace BK424 := zKb BK424 hb; replace BK435 := zKb BK435 hb; replace BK436 := zKb BK436 hb; replace HB := zBs hb; have hnb56 := NB424_436.out; have hnc56 := NB436_424.out; obtain ⟨hcz57_0, hcz57_1, hcz57_2⟩ := zC3 BK424; obtain ⟨hfz57_0, hfz57_1, hfz57_2⟩ := zZ3 BK424) | ((with_reducible refine gkc (f := 29) rfl ?_); refine zgo (some 49) Tryz.func29 #[.agg #[.int .i64 a1_0, .int .i64 a1_1, .slice A1_2 l1_2.length c1_2]] ?_; (with_reducible refine (bank_WriteAnswer.calls k a1_0 a1_1 _ _ l1_2 t445 t446 _ ?side1 ?side2 ?side3 A9.out).mono ?_); (case side1 => exact zQC HR1_2); (case side2 => exact HC1_2.out); (case side3 => exact GG.below HG.out zB); rintro e w58 ⟨rfl, hb⟩; refine ⟨_, rfl, ?_⟩; replace HO429 := Zs.mk (Kd.V_below (zV HO429) hb); replace HO434 := zRb HO434 hb; replace BK423 := zKb BK423 hb; replace BK424 := zKb BK424 hb; replace BK435 := zKb BK435 hb; replace BK436 := zKb BK436 hb; replace HB := zBs hb; obtain ⟨hcz59_0, hcz59_1, hcz59_2⟩ := zC3 BK436; obtain ⟨hfz59_0, hfz59_1, hfz59_2⟩ := zZ3 BK436) | ((with_reducible refine gkc (f := 15) rfl ?_); refine zgo (some 54) Tryz.func15 #[.agg #[.int .i64 t430, .int .i64 t431, .slice Ao41 t432.length co41]] ?_; (with_reducible refine (aR_WriteAnswer.calls k t430 t431 _ _ t432 t447 t448 _ ?side1 ?side2 A10.out).mono ?_); (case side1 => exact zQ HO434); (case side2 => exact (Kd.R_reads' HO434.out).2.1); rintro e w60 ⟨rfl, hb⟩; refine ⟨_, rfl, ?_⟩; replace HO429 := Zs.mk (Kd.V_below (zV HO429) hb); replace HO434 := zRb HO434 hb; replace BK423 := zKb BK423 hb; replace BK424 := zKb BK424 hb; replace BK435 := zKb BK435 hb; replace BK436 := zKb BK436 hb; replace HB := zBs hb; obtain ⟨hcz61_0, hcz61_1, hcz61_2⟩ := zC3 BK423; obtain ⟨hfz61_0, hfz61_1, hfz61_2⟩ := zZ3 BK423; obtain ⟨hcz62_0, hcz62_1, hcz62_2⟩ := zC3 BK424; obtain ⟨hfz62_0, hfz62_1, hfz62_2⟩ := zZ3 BK424) | ((with_reducible refine gkc (f := 31) rfl ?_); refine zgo (some 60) Tryz.func31 #[.agg #[.int .i64 a0_0, .int .i64 a0_1, .slice A0_2 l0_2.length c0_2], .agg #[.int .i64 a1_0, .int .i64 a1_1, .slice A1_2 l1_2.length c1_2]] ?_; (with_reducible refine (bank_Match.calls k a0_0 a0_1 _ _ l0_2 a1_0 a1_1 _ _ l1_2 t449 t452 _ ?side1 ?side2 ?side3 ?side4 A11.out).mono ?_); (case side1 => exact zQC HR0_2); (case side2 => exact HC0_2.out); (case side3 => exact zQC HR1_2); (case side4 => exact HC1_2.out); rintro e w63 ⟨v450, rfl, ho0, hb⟩; refine ⟨_, rfl, ?_⟩; replace HO429 := Zs.mk (Kd.V_elder' (zV HO429) (Kd.R_base ho0) hb); replace HO434 := zRb HO434 hb; have HO451 := Zs.mk (Kd.R_lower ho0 (bsz zB)); replace BK423 := zKb BK423 hb; replace BK424 := zKb BK424 hb; replace BK435 := zKb BK435 hb; replace BK436 := zKb BK436 hb; replace HB := zBs hb; obtain ⟨hcz64_0, hcz64_1, hcz64_2⟩ := zC3 BK435; obtain ⟨hfz64_0, hfz64_1, hfz64_2⟩ := zZ3 BK435; obtain ⟨hcz65_0, hcz65_1, hcz65_2⟩ := zC3 BK436; obtain ⟨hfz65_0, hfz65_1, hfz65_2⟩ := zZ3 BK436) | ((with_reducible refine gkc (f := 40) rfl ?_); refine zgo (some 66) Tryz.func40 #[.agg #[.int .i64 t425, .int .i64 t426, .slice Ao37 t427.length co37], .agg #[.int .i64 t430, .int .i64 t431, .slice Ao41 t432.length co41]] ?_; (with_reducible refine (aR_Match.calls k t425 t426 _ _ t427 t430 t431 _ _ t432 t453 t456 _ ?side1 ?side2 ?side3 ?side4 A12.out).mono ?_); (case side1 => repeat (first | exact (Kd.V_reads' HO429.out).2.2 | (with_reducible refine Kd.C_alloc ?_ _) | (with_reducible refine Kd.C_drewN ?_ _) | (with_reducible refine Kd.C_drew ?_))); (case side2 => exact (Kd.V_reads' HO429.out).2.1); (case side3 => exact zQ HO434); (case side4 => exact (Kd.R_reads' HO434.out).2.1); rintro e w66 ⟨v454, rfl, ho0, hb⟩; refine ⟨_, rfl, ?_⟩; replace HO429 := Zs.mk (Kd.V_elder' (zV HO429) (Kd.R_base ho0) hb); replace HO434 := zRb HO434 hb; have HO455 := Zs.mk (Kd.R_lower (Kd.R_new' ho0 (Kd.R_lt (zR HO451))) (bsz zB)); replace HO451 := Zs.mk (Kd.R_elder' (zR HO451) (Kd.R_base ho0) hb); replace BK423 := zKb BK423 hb; replace BK424 := zKb BK424 hb; replace BK435 := zKb BK435 hb; replace BK436 := zKb BK436 hb; replace HB := zBs hb))
  replace HO429 := Zs.mk (Kd.V_drew HO429.out); replace HO434 := Zs.mk (Kd.Rdw HO434.out); replace HO451 := Zs.mk (Kd.Rdw HO451.out); replace HO455 := Zs.mk (Kd.Rdw HO455.out); replace BK423 := Zs.mk (blk_drew BK423.out); replace BK424 := Zs.mk (blk_drew BK424.out); replace BK435 := Zs.mk (blk_drew BK435.out); replace BK436 := Zs.mk (blk_drew BK436.out); replace HB := Zs.mk (below_drew1 HB.out); obtain ⟨Ao68, co68, eo68⟩ := Kd.R_slice HO451.out
  (first | subst eo68 | (injection eo68 with f1_ f2_ f3_; have f4_ := f1_.symm; have f5_ := f3_.symm; clear f1_ f2_ f3_; subst f4_; subst f5_))
  obtain ⟨Ao69, co69, eo69⟩ := Kd.R_slice HO455.out
  (first | subst eo69 | (injection eo69 with f1_ f2_ f3_; have f4_ := f1_.symm; have f5_ := f3_.symm; clear f1_ f2_ f3_; subst f4_; subst f5_))
  refine start_ (n := 53) (S := fun w' => w'.cell? ⟨gb423, 0, none⟩ = some (.int .i64 a0_0) ∧ w'.cell? ⟨gb423, 1, none⟩ = some (.int .i64 a0_1) ∧ w'.cell? ⟨gb423, 2, none⟩ = some (.slice A0_2 l0_2.length c0_2) ∧ w'.cell? ⟨gb435, 0, none⟩ = some (.int .i64 t425) ∧ w'.cell? ⟨gb435, 1, none⟩ = some (.int .i64 t426) ∧ w'.cell? ⟨gb435, 2, none⟩ = some (.slice Ao37 t427.length co37) ∧ w'.cell? ⟨gb424, 0, none⟩ = some (.int .i64 a1_0) ∧ w'.cell? ⟨gb424, 1, none⟩ = some (.int .i64 a1_1) ∧ w'.cell? ⟨gb424, 2, none⟩ = some (.slice A1_2 l1_2.length c1_2) ∧ w'.cell? ⟨gb436, 0, none⟩ = some (.int .i64 t430) ∧ w'.cell? ⟨gb436, 1, none⟩ = some (.int .i64 t431) ∧ w'.cell? ⟨gb436, 2, none⟩ = some (.slice Ao41 t432.length co41)) (ds := []) (zo 53) (by kernel_rfl) rfl rfl (zJ3 (zC3 BK423) (zJ3 (zC3 BK435) (zJ3 (zC3 BK424) (zC3 BK436)))) (fun hHeld => ?_); refine with_tabW aL_writes.tab10 aL_writes.bits10 (fun HT_ HW_ => ?_)
  generalize w66.drew = w67 at HO429 HO434 HO451 HO455 BK423 BK424 BK435 BK436 HB hHeld ⊢
  refine zp 0 69 (zm 53 1) ?_
  refine zp 1 70 (zm 53 3) ?_
  refine zp 2 71 (zm 53 7) ?_
  refine zp 3 72 (zm 53 15) ?_
  refine zp 4 73 (zm 53 31) ?_
  refine zp 5 74 (zm 53 63) ?_
  refine zp 6 75 (zm 53 127) ?_
  refine zp 7 76 (zm 53 255) ?_
  refine zp 8 77 (zm 53 511) ?_
  refine zp 9 78 (zm 53 1023) ?_
  refine zp 10 79 (zm 53 2047) ?_
  refine zp 11 80 (zm 53 4095) ?_
  refine zp 12 81 (zm 53 8191) ?_
  refine zp 13 82 (zm 53 16383) ?_
  refine zp 14 83 (zm 53 32767) ?_
  refine zp 15 84 (zm 53 65535) ?_
  refine zp 16 85 (zm 53 131071) ?_
  refine zp 17 86 (zm 53 262143) ?_
  refine zp 18 87 (zm 53 524287) ?_
  refine zp 19 88 (zm 53 1048575) ?_
  refine zp 20 89 (zm 53 2097151) ?_
  refine zp 21 90 (zm 53 4194303) ?_
  refine zp 22 91 (zm 53 8388607) ?_
  refine zp 23 92 (zm 53 16777215) ?_
  refine zp 24 93 (zm 53 33554431) ?_
  refine zp 25 94 (zm 53 67108863) ?_
  refine zp 26 95 (zm 53 134217727) ?_
  refine zp 27 96 (zm 53 268435455) ?_
  refine zp 28 97 (zm 53 536870911) ?_
  refine zp 29 98 (zm 53 1073741823) ?_
  refine zp 30 99 (zm 53 2147483647) ?_
  refine one_ (i := 31) (N := some 100) (zm 53 4294967295) rfl rfl (one_of HT_.out (by kernel_rfl)) (by decide) (fun K hK => ?_)
  refine goes_ Tryz.func41 (by kernel_rfl) rfl #[.slice Ao68 t449.length co68, .slice Ao69 t453.length co69] (by rfl) rfl rfl (by (try simp only [List.map_toArray, List.map_cons, List.map_nil]); try rfl) ?_
  with_reducible refine (aL_sameOrders.calls k _ _ t449 _ _ t453 true _ ?side1 ?side2 ?side3 ?side4 A19.out).mono ?_
  (case side1 => exact zQ HO451)
  (case side2 => exact (Kd.R_reads' HO451.out).2.1)
  (case side3 => exact zQ HO455)
  (case side4 => exact (Kd.R_reads' HO455.out).2.1)
  rintro e w' ⟨rfl, ⟨nd, rfl⟩⟩
  refine ⟨_, rfl, ?_⟩
  refine hK.out _ _ (zJ3 (zC3 BK423) (zJ3 (zC3 BK435) (zJ3 (zC3 BK424) (zC3 BK436)))) (fun hHeld => ?_)
  clear hK K
  refine norm_ (a' := ?_) ?_ ?_
  rotate_left
  ·
   show Act.put _ (some 100) _ = _
   simp only [Act.put, z1, z2, z3, i64_w, i32_w]
   rfl
  refine zp 32 101 (zm 53 8589934591) ?_
  refine zp 33 102 (zm 53 17179869183) ?_
  refine zp 34 103 (zm 53 34359738367) ?_
  refine zp 35 104 (zm 53 68719476735) ?_
  refine zp 36 105 (zm 53 137438953471) ?_
  refine zp 37 106 (zm 53 274877906943) ?_
  refine zp 38 107 (zm 53 549755813887) ?_
  refine take_ (i := 39) (N := some 108) (v := ?_) (a' := ?_) (zm 53 1099511627775) rfl rfl (take_ofW HT_.out HW_.out (by kernel_rfl)) (fun _ _ _ h => h) (Or.inl ⟨by rfl, ?_⟩) hHeld ?_ ?_
  rotate_left
  ·
   rintro w' ⟨s0, s1, s2, s3, s4, s5, s6, s7, s8, s9, s10, s11⟩
   go_simp
   with_reducible rfl
  rotate_left
  · simp only [Act.put, z1, z2, z3, i64_w, i32_w]; rfl
  refine take_ (i := 41) (N := some 110) (v := ?_) (a' := ?_) (zm 53 3298534883327) rfl rfl (take_ofW HT_.out HW_.out (by kernel_rfl)) (fun _ _ _ h => h) (Or.inl ⟨by rfl, ?_⟩) hHeld ?_ ?_
  rotate_left
  ·
   rintro w' ⟨s0, s1, s2, s3, s4, s5, s6, s7, s8, s9, s10, s11⟩
   go_simp
   with_reducible rfl
  rotate_left
  · simp only [Act.put, z1, z2, z3, i64_w, i32_w]; rfl
  refine one_ (i := 40) (N := some 109) (zm 53 4398046511103) rfl rfl (one_of HT_.out (by kernel_rfl)) (by decide) (fun K hK => ?_)
  refine goes_ Tryz.func22 (by kernel_rfl) rfl #[.agg #[.int .i64 a0_0, .int .i64 a0_1, .slice A0_2 l0_2.length c0_2]] (by rfl) rfl rfl (by (try simp only [List.map_toArray, List.map_cons, List.map_nil]); try rfl) ?_
  with_reducible refine (bank_Valid.calls k a0_0 a0_1 _ _ l0_2 t458 _ ?side1 ?side2 A22.out).mono ?_
  (case side1 => repeat (first | exact (Kd.C_below HR0_2.out zB) | (with_reducible refine Kd.C_alloc ?_ _) | (with_reducible refine Kd.C_drewN ?_ _) | (with_reducible refine Kd.C_drew ?_)))
  (case side2 => exact HC0_2.out)
  rintro e w70 ⟨rfl, hb⟩
  refine ⟨_, rfl, ?_⟩
  replace HO429 := Zs.mk (Kd.V_below (zV HO429) hb); replace HO434 := zRb HO434 hb; replace HO451 := zRb HO451 hb; replace HO455 := zRb HO455 hb; replace BK423 := zKb BK423 hb; replace BK424 := zKb BK424 hb; replace BK435 := zKb BK435 hb; replace BK436 := zKb BK436 hb; replace HB := zBs hb
  refine hK.out _ _ (zJ3 (zC3 BK423) (zJ3 (zC3 BK435) (zJ3 (zC3 BK424) (zC3 BK436)))) (fun hHeld => ?_)
  clear hK K
  refine norm_ (a' := ?_) ?_ ?_
  rotate_left
  ·
   show Act.put _ (some 109) _ = _
   simp only [Act.put, z1, z2, z3, i64_w, i32_w]
   rfl
  refine one_ (i := 42) (N := some 111) (zm 53 8796093022207) rfl rfl (one_of HT_.out (by kernel_rfl)) (by decide) (fun K hK => ?_)
  refine goes_ Tryz.func35 (by kernel_rfl) rfl #[.agg #[.int .i64 t425, .int .i64 t426, .slice Ao37 t427.length co37]] (by rfl) rfl rfl (by (try simp only [List.map_toArray, List.map_cons, List.map_nil]); try rfl) ?_
  with_reducible refine (aR_Valid.calls k t425 t426 _ _ t427 t459 _ ?side1 ?side2 A23.out).mono ?_
  (case side1 => repeat (first | exact (Kd.V_reads' HO429.out).2.2 | (with_reducible refine Kd.C_alloc ?_ _) | (with_reducible refine Kd.C_drewN ?_ _) | (with_reducible refine Kd.C_drew ?_)))
  (case side2 => exact (Kd.V_reads' HO429.out).2.1)
  rintro e w71 ⟨rfl, hb⟩
  refine ⟨_, rfl, ?_⟩
  replace HO429 := Zs.mk (Kd.V_below (zV HO429) hb); replace HO434 := zRb HO434 hb; replace HO451 := zRb HO451 hb; replace HO455 := zRb HO455 hb; replace BK423 := zKb BK423 hb; replace BK424 := zKb BK424 hb; replace BK435 := zKb BK435 hb; replace BK436 := zKb BK436 hb; replace HB := zBs hb
  refine hK.out _ _ (zJ3 (zC3 BK423) (zJ3 (zC3 BK435) (zJ3 (zC3 BK424) (zC3 BK436)))) (fun hHeld => ?_)
  clear hK K
  refine norm_ (a' := ?_) ?_ ?_
  rotate_left
  ·
   show Act.put _ (some 111) _ = _
   simp only [Act.put, z1, z2, z3, i64_w, i32_w]
   rfl
  refine zp 43 112 (zm 53 17592186044415) ?_
  refine zp 44 113 (zm 53 35184372088831) ?_
  refine zp 45 114 (zm 53 70368744177663) ?_
  refine take_ (i := 46) (N := some 115) (v := ?_) (a' := ?_) (zm 53 140737488355327) rfl rfl (take_ofW HT_.out HW_.out (by kernel_rfl)) (fun _ _ _ h => h) (Or.inl ⟨by rfl, ?_⟩) hHeld ?_ ?_
  rotate_left
  ·
   rintro w' ⟨s0, s1, s2, s3, s4, s5, s6, s7, s8, s9, s10, s11⟩
   go_simp
   with_reducible rfl
  rotate_left
  · simp only [Act.put, z1, z2, z3, i64_w, i32_w]; rfl
  refine take_ (i := 48) (N := some 117) (v := ?_) (a' := ?_) (zm 53 422212465065983) rfl rfl (take_ofW HT_.out HW_.out (by kernel_rfl)) (fun _ _ _ h => h) (Or.inl ⟨by rfl, ?_⟩) hHeld ?_ ?_
  rotate_left
  ·
   rintro w' ⟨s0, s1, s2, s3, s4, s5, s6, s7, s8, s9, s10, s11⟩
   go_simp
   with_reducible rfl
  rotate_left
  · simp only [Act.put, z1, z2, z3, i64_w, i32_w]; rfl
  refine one_ (i := 47) (N := some 116) (zm 53 562949953421311) rfl rfl (one_of HT_.out (by kernel_rfl)) (by decide) (fun K hK => ?_)
  refine goes_ Tryz.func28 (by kernel_rfl) rfl #[.agg #[.int .i64 a1_0, .int .i64 a1_1, .slice A1_2 l1_2.length c1_2]] (by rfl) rfl rfl (by (try simp only [List.map_toArray, List.map_cons, List.map_nil]); try rfl) ?_
  with_reducible refine (bank_Right.calls k a1_0 a1_1 _ _ l1_2 t460 _ ?side1 ?side2 A25.out).mono ?_
  (case side1 => exact zQC HR1_2)
  (case side2 => exact HC1_2.out)
  rintro e w72 ⟨rfl, hb⟩
  refine ⟨_, rfl, ?_⟩
  replace HO429 := Zs.mk (Kd.V_below (zV HO429) hb); replace HO434 := zRb HO434 hb; replace HO451 := zRb HO451 hb; replace HO455 := zRb HO455 hb; replace BK423 := zKb BK423 hb; replace BK424 := zKb BK424 hb; replace BK435 := zKb BK435 hb; replace BK436 := zKb BK436 hb; replace HB := zBs hb
  refine hK.out _ _ (zJ3 (zC3 BK423) (zJ3 (zC3 BK435) (zJ3 (zC3 BK424) (zC3 BK436)))) (fun hHeld => ?_)
  clear hK K
  refine norm_ (a' := ?_) ?_ ?_
  rotate_left
  ·
   show Act.put _ (some 116) _ = _
   simp only [Act.put, z1, z2, z3, i64_w, i32_w]
   rfl
  refine one_ (i := 49) (N := some 118) (zm 53 1125899906842623) rfl rfl (one_of HT_.out (by kernel_rfl)) (by decide) (fun K hK => ?_)
  refine goes_ Tryz.func38 (by kernel_rfl) rfl #[.agg #[.int .i64 t430, .int .i64 t431, .slice Ao41 t432.length co41]] (by rfl) rfl rfl (by (try simp only [List.map_toArray, List.map_cons, List.map_nil]); try rfl) ?_
  with_reducible refine (aR_Right.calls k t430 t431 _ _ t432 t461 _ ?side1 ?side2 A26.out).mono ?_
  (case side1 => exact zQ HO434)
  (case side2 => exact (Kd.R_reads' HO434.out).2.1)
  rintro e w73 ⟨rfl, hb⟩
  refine ⟨_, rfl, ?_⟩
  replace HO429 := Zs.mk (Kd.V_below (zV HO429) hb); replace HO434 := zRb HO434 hb; replace HO451 := zRb HO451 hb; replace HO455 := zRb HO455 hb; replace BK423 := zKb BK423 hb; replace BK424 := zKb BK424 hb; replace BK435 := zKb BK435 hb; replace BK436 := zKb BK436 hb; replace HB := zBs hb
  refine hK.out _ _ (zJ3 (zC3 BK423) (zJ3 (zC3 BK435) (zJ3 (zC3 BK424) (zC3 BK436)))) (fun hHeld => ?_)
  clear hK K
  refine norm_ (a' := ?_) ?_ ?_
  rotate_left
  ·
   show Act.put _ (some 118) _ = _
   simp only [Act.put, z1, z2, z3, i64_w, i32_w]
   rfl
  refine zp 50 119 (zm 53 2251799813685247) ?_
  refine zp 51 120 (zm 53 4503599627370495) ?_
  refine zp 52 4 (zm 53 9007199254740991) ?_
  refine done_ (done_of HT_.out (by kernel_rfl)) ?_
  try go_wp2
  go_ret
  exact ⟨zE, zB⟩
 ·
  replace c20 := Bool.eq_false_iff.mpr c20; subst c20
  rw [if_neg (show ¬ (false = true) by decide)] at H
  exact absurd H (by simp)
end
end Go.Proofs.YtndojpcjhkncgaaGreatDoor.Q
end
section
namespace Go.Proofs.YtndojpcjhkncgaaGreatDoor.Q
open Go Go.RowKit Go.Proofs.YtndojpcjhkncgaaGreatDoorW.PrintWords Go.Proofs.YtndojpcjhkncgaaGreatDoorW.PrintLast Go.Proofs.YtndojpcjhkncgaaGreatDoorW.PrintMore
section
def RowN (W : World) (t : TypeId) (g : Nat) (ns : List Int) : Prop := ∃ cur : Array Value, W.heap[g]? = some (.cells cur t (0, 0)) ∧ cur.toList.take ns.length = ns.map (Value.int .i64)
variable {W W' : World} {t : TypeId} {g : Nat} {ns : List Int}
theorem RowN.cell (h : RowN W t g ns) (i : Nat) (hi : i < ns.length) : W.cell? ⟨g, i, none⟩ = some (.int .i64 (ns.getD i 0)) := by
  obtain ⟨cur, hb, hc⟩ := h
  rw [bkc hb i]
  have h1 : (cur.toList.take ns.length)[i]? = (ns.map (Value.int .i64))[i]? := by rw [hc]
  rw [List.getElem?_take_of_lt hi, Array.getElem?_toList, List.getElem?_map, List.getElem?_eq_getElem hi] at h1
  rw [h1, List.getD, List.getElem?_eq_getElem hi]
  rfl
theorem RowN.frozen (h : RowN W t g ns) (i : Nat) : W.frozen? ⟨g, i, none⟩ = false := by obtain ⟨_, hb, _⟩ := h; exact bkf hb i
theorem RowN.set (h : RowN W t g ns) (i : Nat) (hi : i < ns.length) (x : Int) : RowN (W.setCell ⟨g, i, none⟩ (.int .i64 x)) t g (ns.set i x) := by
  obtain ⟨cur, hb, hc⟩ := h
  refine ⟨_, blk_put hb i (.int .i64 x) rfl, ?_⟩
  rw [List.length_set, Array.toList_setIfInBounds, List.take_set, hc, List.map_set]
theorem RowN.far (h : RowN W t g ns) {k i : Nat} (hne : g ≠ k) (u : Value) : RowN (W.setCell ⟨k, i, none⟩ u) t g ns := by
  obtain ⟨cur, hb, hc⟩ := h
  exact ⟨cur, blk_far hb hne u, hc⟩
theorem RowN.below (h : RowN W t g ns) (hb : Below W.heap.size W W') : RowN W' t g ns := by
  obtain ⟨cur, h1, hc⟩ := h
  exact ⟨cur, blk_below h1 hb, hc⟩
def int5 (o : S47) : List Int := [o.f0, o.f1, o.f2, o.f3, o.f4]
def int2 (o : S49) : List Int := [o.f0, o.f1]
def ord5 (ns : List Int) : S47 := ⟨ns.getD 0 0, ns.getD 1 0, ns.getD 2 0, ns.getD 3 0, ns.getD 4 0⟩
def ret2 (ns : List Int) : S49 := ⟨ns.getD 0 0, ns.getD 1 0⟩
theorem row_parts {w : World} {base : Nat} {e : TypeId} {size : Nat} {v : Value} {n : Nat} {xs : List Value} (h : w.ownsRow base e size v n xs) (hn : 0 < n) (ns : List Int) (hl : ns.length = n * size) (hx : xs = ns.map (Value.int .i64)) :
    ∃ g c, v = .slice (some ⟨g, 0, none⟩) n c ∧ base ≤ g ∧ n ≤ c ∧ RowN w e g ns := by
  rcases h.2 with ⟨_, h0⟩ | ⟨g, c, cur, he, hb, hg, h1, h2, h3, h4⟩
  · omega
  · exact ⟨g, c, he, hb, h1, cur, hg, by rw [hl, h4, hx]⟩
theorem two_orders {w : World} {base : Nat} {ok : Nat → Prop} {v : Value} {a b : S47} (h : Kd.R k47 47 w base ok v [a, b]) :
    ∃ g c, v = .slice (some ⟨g, 0, none⟩) 2 c ∧ base ≤ g ∧ 2 ≤ c ∧ RowN w 47 g (int5 a ++ int5 b) := by
  obtain ⟨_, inner, ho, hl, hr⟩ := h
  have e0 := k47_openM (hr 0 a rfl)
  have e1 := k47_openM (hr 1 b rfl)
  refine row_parts ho (Nat.succ_pos _) (int5 a ++ int5 b) rfl ?_
  have hs : inner = (inner.drop 0).take 5 ++ (inner.drop 5).take 5 := by
    have h10 : inner.length = 10 := hl
    rw [List.drop_zero, List.take_of_length_le (l := inner.drop 5) (by rw [List.length_drop]; omega), List.take_append_drop]
  rw [hs]
  exact (congrArg (· ++ _) e0).trans (congrArg (_ ++ ·) e1)
theorem one_return {w : World} {base : Nat} {ok : Nat → Prop} {v : Value} {a : S49} (h : Kd.R k49 49 w base ok v [a]) :
    ∃ g c, v = .slice (some ⟨g, 0, none⟩) 1 c ∧ base ≤ g ∧ 1 ≤ c ∧ RowN w 49 g (int2 a) := by
  obtain ⟨_, inner, ho, hl, hr⟩ := h
  have e0 := k49_openM (hr 0 a rfl)
  refine row_parts ho (Nat.succ_pos _) (int2 a) rfl ?_
  have hs : inner = (inner.drop 0).take 2 := by
    have h10 : inner.length = 2 := hl
    rw [List.drop_zero, List.take_of_length_le (by omega)]
  rw [hs]
  exact e0
theorem C_orders (h : RowN W t g ns) (hl : ns.length = 10) : Kd.C k47 W (some ⟨g, 0, none⟩) 2 [ord5 ns, ord5 (ns.drop 5)] := by
  refine ⟨rfl, by decide, fun _ => ⟨_, rfl, fun j p hp => ?_⟩⟩
  have add : ∀ n, (⟨g, 0, none⟩ : Addr).add n = ⟨g, n, none⟩ := fun n => by unfold Addr.add; by_cases e : n = 0 <;> simp [e]
  have hd : ∀ i, (ns.drop 5).getD i 0 = ns.getD (5 + i) 0 := fun i => by rw [List.getD, List.getElem?_drop]; rfl
  match j, hp with
  | 0, hp =>
    obtain rfl : ord5 ns = p := Option.some.inj hp
    refine ⟨_, rfl, k47_mk W (ord5 ns), fun i u hu => ?_⟩
    rw [add]
    match i, hu with
    | 0, hu => exact (h.cell 0 (by omega)).trans hu
    | 1, hu => exact (h.cell 1 (by omega)).trans hu
    | 2, hu => exact (h.cell 2 (by omega)).trans hu
    | 3, hu => exact (h.cell 3 (by omega)).trans hu
    | 4, hu => exact (h.cell 4 (by omega)).trans hu
  | 1, hp =>
    obtain rfl : ord5 (ns.drop 5) = p := Option.some.inj hp
    refine ⟨_, rfl, k47_mk W (ord5 (ns.drop 5)), fun i u hu => ?_⟩
    rw [add]
    match i, hu with
    | 0, hu => exact (h.cell 5 (by omega)).trans ((congrArg (fun x => some (Value.int .i64 x)) (hd 0).symm).trans hu)
    | 1, hu => exact (h.cell 6 (by omega)).trans ((congrArg (fun x => some (Value.int .i64 x)) (hd 1).symm).trans hu)
    | 2, hu => exact (h.cell 7 (by omega)).trans ((congrArg (fun x => some (Value.int .i64 x)) (hd 2).symm).trans hu)
    | 3, hu => exact (h.cell 8 (by omega)).trans ((congrArg (fun x => some (Value.int .i64 x)) (hd 3).symm).trans hu)
    | 4, hu => exact (h.cell 9 (by omega)).trans ((congrArg (fun x => some (Value.int .i64 x)) (hd 4).symm).trans hu)
theorem C_returns (h : RowN W t g ns) (hl : ns.length = 2) : Kd.C k49 W (some ⟨g, 0, none⟩) 1 [ret2 ns] := by
  refine ⟨rfl, by decide, fun _ => ⟨_, rfl, fun j p hp => ?_⟩⟩
  have add : ∀ n, (⟨g, 0, none⟩ : Addr).add n = ⟨g, n, none⟩ := fun n => by unfold Addr.add; by_cases e : n = 0 <;> simp [e]
  match j, hp with
  | 0, hp =>
    obtain rfl : ret2 ns = p := Option.some.inj hp
    refine ⟨_, rfl, k49_mk W (ret2 ns), fun i u hu => ?_⟩
    rw [add]
    match i, hu with
    | 0, hu => exact (h.cell 0 (by omega)).trans hu
    | 1, hu => exact (h.cell 1 (by omega)).trans hu
theorem RowN.ne {t' : TypeId} {k : Nat} {ms : List Int} (h : RowN W t g ns) (h' : RowN W t' k ms) (ht : t ≠ t') : g ≠ k := by
  rintro rfl
  obtain ⟨c, h1, _⟩ := h
  obtain ⟨c', h2, _⟩ := h'
  rw [h1] at h2
  injection h2 with h2
  injection h2 with _ h2
  exact ht h2
theorem RowN.ne_blk {t' : TypeId} {k : Nat} {cs : Array Value} (h : RowN W t g ns) (h' : W.heap[k]? = some (.cells cs t' (0, 0))) (ht : t ≠ t') : g ≠ k := by
  rintro rfl
  obtain ⟨c, h1, _⟩ := h
  rw [h1] at h'
  injection h' with h2
  injection h2 with _ h2
  exact ht h2
theorem blk_ne {t' : TypeId} {k : Nat} {c cs : Array Value} (h : W.heap[g]? = some (.cells c t (0, 0))) (h' : W.heap[k]? = some (.cells cs t' (0, 0))) (ht : t ≠ t') : g ≠ k := by
  rintro rfl
  rw [h] at h'
  injection h' with h2
  injection h2 with _ h2
  exact ht h2
theorem zW {w W w2 : World} {t : TypeId} {g : Nat} {ns : List Int} (b : Zs (RowN w t g ns)) (hb : Below W.heap.size W w2) (h : Below w.heap.size w W := by with_reducible repeat (first | exact Below.refl _ _ | apply bla | apply pw_below_drewN | apply below_drew1)) : Zs (RowN w2 t g ns) := ⟨(b.out.below h).below hb⟩
theorem zW0 {w W : World} {t : TypeId} {g : Nat} {ns : List Int} (b : Zs (RowN w t g ns)) (h : Below w.heap.size w W := by with_reducible repeat (first | exact Below.refl _ _ | apply bla | apply pw_below_drewN | apply below_drew1)) : Zs (RowN W t g ns) := ⟨b.out.below h⟩
theorem row_ints {w : World} {base n : Nat} {ok : Nat → Prop} {v : Value} {xs : List Int} (h : Kd.R (Kd.int .i64) 3 w base ok v xs) (hn : xs.length = n) (h0 : 0 < n) :
    ∃ g c, v = .slice (some ⟨g, 0, none⟩) n c ∧ base ≤ g ∧ n ≤ c ∧ RowN w 3 g xs := by
  obtain ⟨_, inner, ho, hl, hr⟩ := h
  rw [hn] at ho
  refine row_parts ho h0 xs (by rw [hn]; exact (Nat.mul_one _).symm) ?_
  apply List.ext_getElem?
  intro j
  rw [List.getElem?_map]
  by_cases hj : j < xs.length
  · have h1 : (inner.drop (j * 1)).take 1 = [.int .i64 xs[j]] := hr j xs[j] (List.getElem?_eq_getElem hj)
    rw [List.getElem?_eq_getElem hj]
    have h2 : ((inner.drop (j * 1)).take 1)[0]? = some (.int .i64 xs[j]) := by rw [h1]; rfl
    rw [List.getElem?_take_of_lt (by decide), List.getElem?_drop, Nat.mul_one, Nat.add_zero] at h2
    exact h2
  · have hl' : inner.length = xs.length := hl.trans (Nat.mul_one _)
    rw [List.getElem?_eq_none (by rw [hl']; omega), List.getElem?_eq_none (Nat.le_of_not_lt hj)]
    rfl
end
end Go.Proofs.YtndojpcjhkncgaaGreatDoor.Q
end
section
namespace Go.Proofs.YtndojpcjhkncgaaGreatDoor.Q
open Go.RowKit Go.Proofs.YtndojpcjhkncgaaGreatDoorW.PrintWords
section
theorem matchS_len (n1 d1 : Int) (L : List S47) (n2 d2 : Int) (R : List S49) (hR : (R.length : Int) ≤ 4611686018427387904) : ((matchS n1 d1 L n2 d2 R).1.length : Int) ≤ 4611686018427387904 := by
  unfold matchS pickS
  split
  · split
    · split
      · rename_i h; show ((picked L R).length : Int) ≤ _; omega
      · simp
    · simp
  · simp
theorem writes_ev (n1 d1 : Int) (L : List S47) (n2 d2 : Int) (R : List S49) (hL : L.length ≤ 4398046511104) (hR : R.length < 8796093022208) : Ev (fun k => aL_writes.f k n1 d1 L n2 d2 R) true := by
  have hL' : (L.length : Int) ≤ 4611686018427387904 := by omega
  have hR' : (R.length : Int) ≤ 4611686018427387904 := by omega
  unfold aL_writes.f
  refine Ev.const (show aL_plain.f n1 d1 L = some _ from rfl) ?_
  refine Ev.bind (old_ev n2 d2 R hR) ?_
  refine Ev.bind (Total_ev n1 d1 L hL').1 (Ev.bind (Total_ev n1 d1 L hL').2 ?_)
  refine Ev.bind (Write_ev n1 d1 L hL') (Ev.bind (refWrite_ev n1 d1 L hL') ?_)
  refine Ev.bind (WriteAnswer_ev n2 d2 R hR') (Ev.bind (refAnswer_ev n2 d2 R hR') ?_)
  refine Ev.bind (Match_ev n1 d1 L n2 d2 R hL' hR') (Ev.bind (refMatch_ev n1 d1 L n2 d2 R hL' hR') ?_)
  refine Ev.pos rfl (Ev.pos rfl (Ev.pos rfl (Ev.pos rfl (Ev.pos rfl (Ev.pos rfl ?_)))))
  refine Ev.bind (same_ev _ (matchS_len n1 d1 L n2 d2 R hR')) (Ev.pos rfl (Ev.pos rfl ?_))
  refine Ev.bind (Valid_ev n1 d1 L hL') (Ev.bind (refValid_ev n1 d1 L hL') (Ev.pos (by simp) ?_))
  refine Ev.bind (Right_ev n2 d2 R hR') (Ev.bind (refRight_ev n2 d2 R hR') ?_)
  exact Ev.ret (by simp)
end
end Go.Proofs.YtndojpcjhkncgaaGreatDoor.Q
end
section
namespace Go.Proofs.YtndojpcjhkncgaaGreatDoor.Q
open Go Go.RowKit Go.Proofs.YtndojpcjhkncgaaGreatDoorW.PrintWords Go.Proofs.YtndojpcjhkncgaaGreatDoorW.PrintLast Go.Proofs.YtndojpcjhkncgaaGreatDoorW.PrintMore
section
mutual
def aL_BankSmall.l0 : Nat → ByteArray → ByteArray → Int → Option (Bool)
 | 0, _, _, _ => none
 | k + 1, x3, x5, x8 => if x8 < (x3.size : Int) then (aL_BankSmall.l1 k x3 x5 x8 0) else (aL_BankSmall.l3 k (([(-9223372036854775808), (-1), 0, 1, 5, 9, 10, 65535, 65536, 1099511627776, 1099511627777, 9223372036854775807] : List Int)) 0)
def aL_BankSmall.l1 : Nat → ByteArray → ByteArray → Int → Int → Option (Bool)
 | 0, _, _, _, _ => none
 | k + 1, x3, x5, x8, x9 => if x9 < 15 then (aL_BankSmall.l2 k x3 x5 x8 x9 0) else (aL_BankSmall.l0 k x3 x5 (wrap64 (x8 + 1)))
def aL_BankSmall.l2 : Nat → ByteArray → ByteArray → Int → Int → Int → Option (Bool)
 | 0, _, _, _, _, _ => none
 | k + 1, x3, x5, x8, x9, x10 => if x10 < 3 then (if 0 ≤ x9 then (if x9 < 15 then ((aL_change.f x3 x8 x10 (bt (⟨#[32, 10, 48, 49, 53, 57, 97, 102, 69, 65, 78, 121, 45, 0, 255]⟩ : ByteArray) x9)).bind fun t559 => ((aL_reads.f k t559).bind fun t560 => (if t560 = true then (if x8 < (x5.size : Int) then ((aL_change.f x5 x8 x10 (bt (⟨#[32, 10, 48, 49, 53, 57, 97, 102, 69, 65, 78, 121, 45, 0, 255]⟩ : ByteArray) x9)).bind fun t561 => ((aL_reads.f k t561).bind fun t562 => (if t562 = true then (aL_BankSmall.l2 k x3 x5 x8 x9 (wrap64 (x10 + 1))) else (some false)))) else (aL_BankSmall.l2 k x3 x5 x8 x9 (wrap64 (x10 + 1)))) else (some false)))) else (none)) else (none)) else (aL_BankSmall.l1 k x3 x5 x8 (wrap64 (x9 + 1)))
def aL_BankSmall.l3 : Nat → List Int → Int → Option (Bool)
 | 0, _, _ => none
 | k + 1, x11, x12 => ((aL_limits.f k).bind fun t566 => (if t566 = true then ((aL_awake.f k).bind fun t567 => (some t567)) else (some false)))
def aL_BankSmall.l4 : Nat → List Int → Int → Int → Option (Bool)
 | 0, _, _, _ => none
 | k + 1, x11, x12, x13 => none
end
def aL_BankSmall.f (k : Nat)  : Option (Bool) := (aL_two.f).bind fun bt533 => ((aL_plain.f bt533.1 bt533.2.1 bt533.2.2.1).bind fun bt545 => ((aR_Write.f k bt545.1 bt545.2.1 bt545.2.2).bind fun bt550 => ((aL_old.f k bt533.2.2.2.1 bt533.2.2.2.2.1 bt533.2.2.2.2.2).bind fun bt552 => ((aR_WriteAnswer.f k bt552.1 bt552.2.1 bt552.2.2).bind fun bt557 => (aL_BankSmall.l0 k bt550.1 bt557.1 0)))))
set_option maxHeartbeats 8000000 in
set_option maxRecDepth 100000 in
theorem aL_BankSmall.calls (k : Nat)  (r : Bool) (w : World) (hG : GG w) (h : aL_BankSmall.f k  = some r) :
  Calls Tryz.prog 4 #[] w fun e w' => e = .returned (.bool r) ∧ Below w.heap.size w w' := by
 have hu27 := Tryz.underlying27; have hu30 := Tryz.underlying30; have HG := Zs.mk hG; clear hG; have HB := Zs.mk (Below.refl w.heap.size w); have H : ((aL_two.f).bind fun bt533 => ((aL_plain.f bt533.1 bt533.2.1 bt533.2.2.1).bind fun bt545 => ((aR_Write.f k bt545.1 bt545.2.1 bt545.2.2).bind fun bt550 => ((aL_old.f k bt533.2.2.2.1 bt533.2.2.2.2.1 bt533.2.2.2.2.2).bind fun bt552 => ((aR_WriteAnswer.f k bt552.1 bt552.2.1 bt552.2.2).bind fun bt557 => (aL_BankSmall.l0 k bt550.1 bt557.1 0)))))) = some r := h; clear h; obtain ⟨⟨t533, t534, t535, t538, t539, t540⟩, A1, H⟩ := zb H; (try dsimp only [-Int.reduceToNat] at H); obtain ⟨⟨t545, t546, t547⟩, A2, H⟩ := zb H; (try dsimp only [-Int.reduceToNat] at H); obtain ⟨⟨t550, t551⟩, A3, H⟩ := zb H; (try dsimp only [-Int.reduceToNat] at H); obtain ⟨⟨t552, t553, t554⟩, A4, H⟩ := zb H; (try dsimp only [-Int.reduceToNat] at H); obtain ⟨⟨t557, t558⟩, A5, H⟩ := zb H; (try dsimp only [-Int.reduceToNat] at H); have H' := Zs.mk H; clear H
 go_enter Tryz.func4, Tryz.ntmps4
 go_wp2_with (first | ((with_reducible refine gkc (f := 12) rfl ?_); refine zgo (some 18) Tryz.func12 #[] ?_; (with_reducible refine (aL_two.calls  t533 t534 t535 t538 t539 t540 _ A1.out).mono ?_); rintro e w6 ⟨v536, v541, rfl, ho0, ho1, hb⟩; refine ⟨_, rfl, ?_⟩; have HO537 := Zs.mk (Kd.R_lower ho0 (bsz zB)); have HO542 := Zs.mk (Kd.R_lower ho1 (bsz zB)); replace HB := zBs hb) | ((with_reducible refine gkd (N := 1) rfl ?_); (try (refine gate_guard (by rfl) ?_; dsimp only)); refine bxe ?hg (N := 1) ?hd (cs := #[.int .i64 0, .int .i64 0, .slice none 0 0]) (t := 27) ?hr ?_; (case hd => rfl); (case hg => rfl); (case hr => first | (go_simp; done) | (go_simp; rfl)); intro gb543 hg w7 hbox hb; replace HO537 := zRb HO537 hb; replace HO542 := zRb HO542 hb; have BK543 := Zs.mk (hbox); have GW543 := zG (w := w) hg; have GE543 := zG (w := w) hg; replace HB := zBs hb; clear hb hbox hg) | ((with_reducible refine gkd (N := 2) rfl ?_); (try (refine gate_guard (by rfl) ?_; dsimp only)); refine bxe ?hg (N := 2) ?hd (cs := #[.int .i64 0, .int .i64 0, .slice none 0 0]) (t := 30) ?hr ?_; (case hd => rfl); (case hg => rfl); (case hr => first | (go_simp; done) | (go_simp; rfl)); intro gb544 hg w8 hbox hb; replace HO537 := zRb HO537 hb; replace HO542 := zRb HO542 hb; have BK544 := Zs.mk (hbox); have GW544 := zG (w := w) hg; have GE544 := zG (w := w) hg; replace HB := zBs hb; have NB543_544 := zN hg (zK BK543); have NB544_543 := zM hg (zK BK543); replace BK543 := zKb BK543 hb; clear hb hbox hg; have hnb9 := NB543_544.out; have hnc9 := NB544_543.out; obtain ⟨hcz10_0, hcz10_1, hcz10_2⟩ := zC3 BK543; obtain ⟨hfz10_0, hfz10_1, hfz10_2⟩ := zZ3 BK543; obtain ⟨Ao11, co11, eo11⟩ := Kd.R_slice HO537.out; subst eo11) | ((with_reducible refine gate_store (t := 27) (p := 1) rfl ?_); refine store_event (t := 27) (p := 1) (v := ?vo_w12) (w1 := (((w8.setCell ⟨gb543, 0, none⟩ (.int .i64 t533)).setCell ⟨gb543, 1, none⟩ (.int .i64 t534)).setCell ⟨gb543, 2, none⟩ (.slice Ao11 t535.length co11))) ?hg ?ho ?hn ?hr ?_; (case ho => rfl); (case hg => rfl); (case hn => rfl); (case hr => first | (go_simp; done) | (go_simp; rfl)); intro w12 hw; have n0_ : Zs (Kd.R k47 47 w12 w.heap.size (fun _ => True) (.slice Ao11 t535.length co11) t535) := ⟨(by rw [hw]; exact (by (with_reducible repeat (first | apply Kd.Ral | apply Kd.Rdn | apply Kd.Rdw)); exact Kd.R_mono (Kd.R_far (p := ⟨gb543, 2, none⟩) (Kd.R_far (p := ⟨gb543, 1, none⟩) (Kd.R_far (p := ⟨gb543, 0, none⟩) (Kd.Rty HO537.out BK543.out (by decide)) (fun _ hk => hk.2) (.int .i64 t533)) (fun _ hk => hk.2) (.int .i64 t534)) (fun _ hk => hk.2) (.slice Ao11 t535.length co11)) (fun _ hk => trivial)))⟩; have n1_ : Zs (Kd.R k49 49 w12 w.heap.size (fun _ => True) v541 t540) := ⟨(by rw [hw]; exact (by (with_reducible repeat (first | apply Kd.Ral | apply Kd.Rdn | apply Kd.Rdw)); exact Kd.R_mono (Kd.R_far (p := ⟨gb543, 2, none⟩) (Kd.R_far (p := ⟨gb543, 1, none⟩) (Kd.R_far (p := ⟨gb543, 0, none⟩) (Kd.Rty HO542.out BK543.out (by decide)) (fun _ hk => hk.2) (.int .i64 t533)) (fun _ hk => hk.2) (.int .i64 t534)) (fun _ hk => hk.2) (.slice Ao11 t535.length co11)) (fun _ hk => trivial)))⟩; have n2_ : Zs (w12.heap[gb543]? = some (.cells #[.int .i64 t533, .int .i64 t534, .slice Ao11 t535.length co11] 27 (0, 0))) := ⟨(by rw [hw]; exact (zY BK543))⟩; have n3_ : Zs (w12.heap[gb544]? = some (.cells #[.int .i64 0, .int .i64 0, .slice none 0 0] 30 (0, 0))) := ⟨(by rw [hw]; exact (zF BK544))⟩; have n4_ : Zs (Below w.heap.size w w12) := ⟨(by rw [hw]; exact zB)⟩; clear hw; clear HO537; clear HO542; clear BK543; clear BK544; clear HB; have HO537 := n0_; have HO542 := n1_; have BK543 := n2_; have BK544 := n3_; have HB := n4_; clear n0_ n1_ n2_ n3_ n4_; obtain ⟨hcz13_0, hcz13_1, hcz13_2⟩ := zC3 BK544; obtain ⟨hfz13_0, hfz13_1, hfz13_2⟩ := zZ3 BK544; obtain ⟨Ao14, co14, eo14⟩ := Kd.R_slice HO542.out; subst eo14) | ((with_reducible refine gate_store (t := 30) (p := 2) rfl ?_); refine store_event (t := 30) (p := 2) (v := ?vo_w15) (w1 := (((w12.setCell ⟨gb544, 0, none⟩ (.int .i64 t538)).setCell ⟨gb544, 1, none⟩ (.int .i64 t539)).setCell ⟨gb544, 2, none⟩ (.slice Ao14 t540.length co14))) ?hg ?ho ?hn ?hr ?_; (case ho => rfl); (case hg => rfl); (case hn => rfl); (case hr => first | (go_simp; done) | (go_simp; rfl)); intro w15 hw; have n0_ : Zs (Kd.R k47 47 w15 w.heap.size (fun _ => True) (.slice Ao11 t535.length co11) t535) := ⟨(by rw [hw]; exact (by (with_reducible repeat (first | apply Kd.Ral | apply Kd.Rdn | apply Kd.Rdw)); exact Kd.R_mono (Kd.R_far (p := ⟨gb544, 2, none⟩) (Kd.R_far (p := ⟨gb544, 1, none⟩) (Kd.R_far (p := ⟨gb544, 0, none⟩) (Kd.Rty HO537.out BK544.out (by decide)) (fun _ hk => hk.2) (.int .i64 t538)) (fun _ hk => hk.2) (.int .i64 t539)) (fun _ hk => hk.2) (.slice Ao14 t540.length co14)) (fun _ hk => trivial)))⟩; have n1_ : Zs (Kd.R k49 49 w15 w.heap.size (fun _ => True) (.slice Ao14 t540.length co14) t540) := ⟨(by rw [hw]; exact (by (with_reducible repeat (first | apply Kd.Ral | apply Kd.Rdn | apply Kd.Rdw)); exact Kd.R_mono (Kd.R_far (p := ⟨gb544, 2, none⟩) (Kd.R_far (p := ⟨gb544, 1, none⟩) (Kd.R_far (p := ⟨gb544, 0, none⟩) (Kd.Rty HO542.out BK544.out (by decide)) (fun _ hk => hk.2) (.int .i64 t538)) (fun _ hk => hk.2) (.int .i64 t539)) (fun _ hk => hk.2) (.slice Ao14 t540.length co14)) (fun _ hk => trivial)))⟩; have n2_ : Zs (w15.heap[gb543]? = some (.cells #[.int .i64 t533, .int .i64 t534, .slice Ao11 t535.length co11] 27 (0, 0))) := ⟨(by rw [hw]; exact (zF BK543))⟩; have n3_ : Zs (w15.heap[gb544]? = some (.cells #[.int .i64 t538, .int .i64 t539, .slice Ao14 t540.length co14] 30 (0, 0))) := ⟨(by rw [hw]; exact (zY BK544))⟩; have n4_ : Zs (Below w.heap.size w w15) := ⟨(by rw [hw]; exact zB)⟩; clear hw; clear HO537; clear HO542; clear BK543; clear BK544; clear HB; have HO537 := n0_; have HO542 := n1_; have BK543 := n2_; have BK544 := n3_; have HB := n4_; clear n0_ n1_ n2_ n3_ n4_; obtain ⟨hcz16_0, hcz16_1, hcz16_2⟩ := zC3 BK543; obtain ⟨hfz16_0, hfz16_1, hfz16_2⟩ := zZ3 BK543) | ((with_reducible refine gkc (f := 14) rfl ?_); refine zgo (some 23) Tryz.func14 #[.agg #[.int .i64 t533, .int .i64 t534, .slice Ao11 t535.length co11]] ?_; (with_reducible refine (aL_plain.calls t533 t534 (fun k_ => some k_ = (.slice Ao11 t535.length co11 : Value).ownBlock) _ _ t535 t545 t546 t547 _ ?side1 A2.out).mono ?_); (case side1 => exact Kd.R_V (Kd.R_tight rfl (Kd.Rty (Kd.Rty (Kd.R_apart' (HO537.out) (Kd.Rtd HO542.out) (by decide)) BK543.out (by decide)) BK544.out (by decide)))); rintro e w17 ⟨v548, rfl, ho0, hb⟩; refine ⟨_, rfl, ?_⟩; have HO549 := Zs.mk (Kd.V_lower (Kd.V_mono (ok' := fun k_ => some k_ ≠ (.slice Ao14 t540.length co14 : Value).ownBlock ∧ k_ ≠ gb543 ∧ k_ ≠ gb544) ho0 (fun k_ hk_ => ⟨Or.elim hk_ (fun hs_ => ((Kd.Rty (Kd.Rty (Kd.R_apart' (HO537.out) (Kd.Rtd HO542.out) (by decide)) BK543.out (by decide)) BK544.out (by decide)).1 k_ hs_.symm).1.1.2) (fun hn_ => (Kd.fresh' (Kd.R_lt (zR HO542)) k_ hn_)), Or.elim hk_ (fun hs_ => ((Kd.Rty (Kd.Rty (Kd.R_apart' (HO537.out) (Kd.Rtd HO542.out) (by decide)) BK543.out (by decide)) BK544.out (by decide)).1 k_ hs_.symm).1.2) (fun hn_ => (Kd.freshB (g := gb543) (o := .cells #[.int .i64 t533, .int .i64 t534, .slice Ao11 t535.length co11] 27 (0, 0)) (zK BK543) k_ hn_)), Or.elim hk_ (fun hs_ => ((Kd.Rty (Kd.Rty (Kd.R_apart' (HO537.out) (Kd.Rtd HO542.out) (by decide)) BK543.out (by decide)) BK544.out (by decide)).1 k_ hs_.symm).2) (fun hn_ => (Kd.freshB (g := gb544) (o := .cells #[.int .i64 t538, .int .i64 t539, .slice Ao14 t540.length co14] 30 (0, 0)) (zK BK544) k_ hn_))⟩)) (bsz zB)); replace HO537 := zRb HO537 hb; replace HO542 := zRb HO542 hb; replace BK543 := zKb BK543 hb; replace BK544 := zKb BK544 hb; replace HB := zBs hb; obtain ⟨Ao18, co18, eo18⟩ := Kd.V_slice HO549.out; subst eo18) | ((with_reducible refine gkc (f := 13) rfl ?_); refine zgo (some 24) Tryz.func13 #[.agg #[.int .i64 t545, .int .i64 t546, .slice Ao18 t547.length co18]] ?_; (with_reducible refine (aR_Write.calls k t545 t546 _ _ t547 t550 t551 _ ?side1 ?side2 A3.out).mono ?_); (case side1 => repeat (first | exact (Kd.V_reads' HO549.out).2.2 | (with_reducible refine Kd.C_alloc ?_ _) | (with_reducible refine Kd.C_drewN ?_ _) | (with_reducible refine Kd.C_drew ?_))); (case side2 => exact (Kd.V_reads' HO549.out).2.1); rintro e w19 ⟨rfl, hb⟩; refine ⟨_, rfl, ?_⟩; replace HO537 := zRb HO537 hb; replace HO542 := zRb HO542 hb; replace HO549 := Zs.mk (Kd.V_below (zV HO549) hb); replace BK543 := zKb BK543 hb; replace BK544 := zKb BK544 hb; replace HB := zBs hb; obtain ⟨hcz20_0, hcz20_1, hcz20_2⟩ := zC3 BK544; obtain ⟨hfz20_0, hfz20_1, hfz20_2⟩ := zZ3 BK544) | ((with_reducible refine gkc (f := 16) rfl ?_); refine zgo (some 29) Tryz.func16 #[.agg #[.int .i64 t538, .int .i64 t539, .slice Ao14 t540.length co14]] ?_; (with_reducible refine (aL_old.calls k t538 t539 _ _ t540 t552 t553 t554 _ ?side1 ?side2 A4.out).mono ?_); (case side1 => exact zQ HO542); (case side2 => exact (Kd.R_reads' HO542.out).2.1); rintro e w21 ⟨v555, rfl, ho0, hb⟩; refine ⟨_, rfl, ?_⟩; replace HO537 := zRb HO537 hb; replace HO542 := zRb HO542 hb; replace HO549 := Zs.mk (Kd.V_elder' (zV HO549) (Kd.R_base ho0) hb); have HO556 := Zs.mk (Kd.R_lower ho0 (bsz zB)); replace BK543 := zKb BK543 hb; replace BK544 := zKb BK544 hb; replace HB := zBs hb; obtain ⟨Ao22, co22, eo22⟩ := Kd.R_slice HO556.out; subst eo22) | ((with_reducible refine gkc (f := 15) rfl ?_); refine zgo (some 30) Tryz.func15 #[.agg #[.int .i64 t552, .int .i64 t553, .slice Ao22 t554.length co22]] ?_; (with_reducible refine (aR_WriteAnswer.calls k t552 t553 _ _ t554 t557 t558 _ ?side1 ?side2 A5.out).mono ?_); (case side1 => exact zQ HO556); (case side2 => exact (Kd.R_reads' HO556.out).2.1); rintro e w23 ⟨rfl, hb⟩; refine ⟨_, rfl, ?_⟩; replace HO537 := zRb HO537 hb; replace HO542 := zRb HO542 hb; replace HO549 := Zs.mk (Kd.V_below (zV HO549) hb); replace HO556 := zRb HO556 hb; replace BK543 := zKb BK543 hb; replace BK544 := zKb BK544 hb; replace HB := zBs hb))
 go_loopg [8] k (fun kq v8 w' => ∃ (x8_1 : Int), v8 = .int .i64 x8_1 ∧ Zs (aL_BankSmall.l0 kq t550 t557 x8_1 = some r) ∧ Zs (kq ≤ k) ∧ Zs (Kd.R k47 47 w' w.heap.size (fun _ => True) (.slice Ao11 t535.length co11) t535) ∧ Zs (Kd.R k49 49 w' w.heap.size (fun _ => True) (.slice Ao14 t540.length co14) t540) ∧ Zs (w'.heap[gb543]? = some (.cells #[.int .i64 t533, .int .i64 t534, (.slice Ao11 t535.length co11)] 27 (0, 0))) ∧ Zs (w'.heap[gb544]? = some (.cells #[.int .i64 t538, .int .i64 t539, (.slice Ao14 t540.length co14)] 30 (0, 0))) ∧ Zs (Below w.heap.size w w'))
 case atStart => exact ⟨(0), zs, H', ⟨Nat.le_refl _⟩, ⟨zR HO537⟩, ⟨zR HO542⟩, ⟨zK BK543⟩, ⟨zK BK544⟩, ⟨zB⟩⟩
 case round =>
  clear H'
  obtain ⟨x8_1, rfl, HA, HK1, HO_544002, HO_545002, BK543, BK544, HB⟩ := hrel
  cases gk with
  | zero => exact absurd HA.out (by simp [aL_BankSmall.l0])
  | succ k1 =>
   have H := HA.out; clear HA
   simp only [aL_BankSmall.l0] at H
   by_cases c24 : x8_1 < (t550.size : Int)
   ·
    rw [if_pos c24] at H
    have c24b0 := decide_eq_true c24; clear c24; have H' := Zs.mk H; clear H
    go_wp2
    go_loopg [9] k1 (fun kq v9 w' => ∃ (x9_2 : Int), v9 = .int .i64 x9_2 ∧ Zs (aL_BankSmall.l1 kq t550 t557 x8_1 x9_2 = some r) ∧ Zs (kq ≤ k1) ∧ Zs (Kd.R k47 47 w' w.heap.size (fun _ => True) (.slice Ao11 t535.length co11) t535) ∧ Zs (Kd.R k49 49 w' w.heap.size (fun _ => True) (.slice Ao14 t540.length co14) t540) ∧ Zs (w'.heap[gb543]? = some (.cells #[.int .i64 t533, .int .i64 t534, (.slice Ao11 t535.length co11)] 27 (0, 0))) ∧ Zs (w'.heap[gb544]? = some (.cells #[.int .i64 t538, .int .i64 t539, (.slice Ao14 t540.length co14)] 30 (0, 0))) ∧ Zs (Below w.heap.size w w'))
    case atStart => exact ⟨(0), zs, H', ⟨Nat.le_refl _⟩, ⟨zR HO_544002⟩, ⟨zR HO_545002⟩, ⟨zK BK543⟩, ⟨zK BK544⟩, ⟨zB⟩⟩
    case round =>
     clear H'
     obtain ⟨x9_2, rfl, HA, HK2, HO_544002, HO_545002, BK543, BK544, HB⟩ := hrel
     cases gk with
     | zero => exact absurd HA.out (by simp [aL_BankSmall.l1])
     | succ k2 =>
      have H := HA.out; clear HA
      simp only [aL_BankSmall.l1] at H
      by_cases c25 : x9_2 < 15
      ·
       rw [if_pos c25] at H
       have c25b0 := decide_eq_true c25; clear c25; have H' := Zs.mk H; clear H
       go_wp2
       go_loopg [10] k2 (fun kq v10 w' => ∃ (x10_3 : Int), v10 = .int .i64 x10_3 ∧ Zs (aL_BankSmall.l2 kq t550 t557 x8_1 x9_2 x10_3 = some r) ∧ Zs (kq ≤ k2) ∧ Zs (Kd.R k47 47 w' w.heap.size (fun _ => True) (.slice Ao11 t535.length co11) t535) ∧ Zs (Kd.R k49 49 w' w.heap.size (fun _ => True) (.slice Ao14 t540.length co14) t540) ∧ Zs (w'.heap[gb543]? = some (.cells #[.int .i64 t533, .int .i64 t534, (.slice Ao11 t535.length co11)] 27 (0, 0))) ∧ Zs (w'.heap[gb544]? = some (.cells #[.int .i64 t538, .int .i64 t539, (.slice Ao14 t540.length co14)] 30 (0, 0))) ∧ Zs (Below w.heap.size w w'))
       case atStart => exact ⟨(0), zs, H', ⟨Nat.le_refl _⟩, ⟨zR HO_544002⟩, ⟨zR HO_545002⟩, ⟨zK BK543⟩, ⟨zK BK544⟩, ⟨zB⟩⟩
       case round =>
        clear H'
        obtain ⟨x10_3, rfl, HA, HK3, HO_544002, HO_545002, BK543, BK544, HB⟩ := hrel
        cases gk with
        | zero => exact absurd HA.out (by simp [aL_BankSmall.l2])
        | succ k3 =>
         have H := HA.out; clear HA
         simp only [aL_BankSmall.l2] at H
         by_cases c26 : x10_3 < 3
         ·
          rw [if_pos c26] at H
          have c26b0 := decide_eq_true c26; clear c26
          have c27 := zc H
          rw [if_pos c27] at H
          have c27b0 := decide_eq_true c27; clear c27
          have c28 := zc H
          rw [if_pos c28] at H
          have c28b0 := decide_eq_true c28; clear c28; obtain ⟨t559, A30, H⟩ := zb H; (try dsimp only [-Int.reduceToNat] at H); obtain ⟨t560, A31, H⟩ := zb H; (try dsimp only [-Int.reduceToNat] at H)
          by_cases c32 : t560 = true
          ·
           subst c32
           rw [if_pos rfl] at H
           by_cases c33 : x8_1 < (t557.size : Int)
           ·
            rw [if_pos c33] at H
            have c33b0 := decide_eq_true c33; clear c33; obtain ⟨t561, A35, H⟩ := zb H; (try dsimp only [-Int.reduceToNat] at H); obtain ⟨t562, A36, H⟩ := zb H; (try dsimp only [-Int.reduceToNat] at H)
            by_cases c37 : t562 = true
            ·
             subst c37
             rw [if_pos rfl] at H
             have H' := Zs.mk H; clear H; have p29 : 0 ≤ (x9_2 : Int) := zD; have q29 : x9_2 < (15 : Int) := zD; have hx29 := bt_at (⟨#[32, 10, 48, 49, 53, 57, 97, 102, 69, 65, 78, 121, 45, 0, 255]⟩ : ByteArray) x9_2; replace p29 := eq_true p29; replace q29 := eq_true q29
             go_wp2_with (first | ((with_reducible refine gkc (f := 17) rfl ?_); refine zgo (some 55) Tryz.func17 #[.string t550, .int .i64 x8_1, .int .i64 x10_3, .int .u8 (bt (⟨#[32, 10, 48, 49, 53, 57, 97, 102, 69, 65, 78, 121, 45, 0, 255]⟩ : ByteArray) x9_2)] ?_; (with_reducible refine (aL_change.calls t550 x8_1 x10_3 (bt (⟨#[32, 10, 48, 49, 53, 57, 97, 102, 69, 65, 78, 121, 45, 0, 255]⟩ : ByteArray) x9_2) t559 _ A30.out).mono ?_); rintro e w38 ⟨rfl, hb⟩; refine ⟨_, rfl, ?_⟩; replace HO_544002 := zRb HO_544002 hb; replace HO_545002 := zRb HO_545002 hb; replace BK543 := zKb BK543 hb; replace BK544 := zKb BK544 hb; replace HB := zBs hb) | ((with_reducible refine gkc (f := 10) rfl ?_); refine zgo (some 56) Tryz.func10 #[.string t559] ?_; (with_reducible refine (aL_reads.calls k3 t559 true _ ?side1 A31.out).mono ?_); (case side1 => exact GG.below HG.out zB); rintro e w39 ⟨rfl, hb⟩; refine ⟨_, rfl, ?_⟩; replace HO_544002 := zRb HO_544002 hb; replace HO_545002 := zRb HO_545002 hb; replace BK543 := zKb BK543 hb; replace BK544 := zKb BK544 hb; replace HB := zBs hb; have p34 : 0 ≤ (x9_2 : Int) := zD; have q34 : x9_2 < (15 : Int) := zD; have hx34 := bt_at (⟨#[32, 10, 48, 49, 53, 57, 97, 102, 69, 65, 78, 121, 45, 0, 255]⟩ : ByteArray) x9_2; replace p34 := eq_true p34; replace q34 := eq_true q34) | (go_at_call 17; (with_reducible refine (aL_change.calls t557 x8_1 x10_3 (bt (⟨#[32, 10, 48, 49, 53, 57, 97, 102, 69, 65, 78, 121, 45, 0, 255]⟩ : ByteArray) x9_2) t561 _ A35.out).mono ?_); rintro e w40 ⟨rfl, hb⟩; replace HO_544002 := zRb HO_544002 hb; replace HO_545002 := zRb HO_545002 hb; replace BK543 := zKb BK543 hb; replace BK544 := zKb BK544 hb; replace HB := zBs hb) | (go_at_call 10; (with_reducible refine (aL_reads.calls k3 t561 true _ ?side1 A36.out).mono ?_); (case side1 => exact GG.below HG.out zB); rintro e w41 ⟨rfl, hb⟩; replace HO_544002 := zRb HO_544002 hb; replace HO_545002 := zRb HO_545002 hb; replace BK543 := zKb BK543 hb; replace BK544 := zKb BK544 hb; replace HB := zBs hb))
             go_roundg k3
             case measure => have := HK1.out; have := HK2.out; have := HK3.out; omega
             case rel => exact ⟨(wrap64 (x10_3 + 1)), zs, H', ⟨by have := HK1.out; have := HK2.out; have := HK3.out; omega⟩, ⟨zR HO_544002⟩, ⟨zR HO_545002⟩, ⟨zK BK543⟩, ⟨zK BK544⟩, ⟨zB⟩⟩
            ·
             replace c37 := Bool.eq_false_iff.mpr c37; subst c37
             rw [if_neg (show ¬ (false = true) by decide)] at H
             obtain rfl := Option.some.inj H; have p29 : 0 ≤ (x9_2 : Int) := zD; have q29 : x9_2 < (15 : Int) := zD; have hx29 := bt_at (⟨#[32, 10, 48, 49, 53, 57, 97, 102, 69, 65, 78, 121, 45, 0, 255]⟩ : ByteArray) x9_2; replace p29 := eq_true p29; replace q29 := eq_true q29
             go_wp2_with (first | ((with_reducible refine gkc (f := 17) rfl ?_); refine zgo (some 55) Tryz.func17 #[.string t550, .int .i64 x8_1, .int .i64 x10_3, .int .u8 (bt (⟨#[32, 10, 48, 49, 53, 57, 97, 102, 69, 65, 78, 121, 45, 0, 255]⟩ : ByteArray) x9_2)] ?_; (with_reducible refine (aL_change.calls t550 x8_1 x10_3 (bt (⟨#[32, 10, 48, 49, 53, 57, 97, 102, 69, 65, 78, 121, 45, 0, 255]⟩ : ByteArray) x9_2) t559 _ A30.out).mono ?_); rintro e w42 ⟨rfl, hb⟩; refine ⟨_, rfl, ?_⟩; replace HO_544002 := zRb HO_544002 hb; replace HO_545002 := zRb HO_545002 hb; replace BK543 := zKb BK543 hb; replace BK544 := zKb BK544 hb; replace HB := zBs hb) | ((with_reducible refine gkc (f := 10) rfl ?_); refine zgo (some 56) Tryz.func10 #[.string t559] ?_; (with_reducible refine (aL_reads.calls k3 t559 true _ ?side1 A31.out).mono ?_); (case side1 => exact GG.below HG.out zB); rintro e w43 ⟨rfl, hb⟩; refine ⟨_, rfl, ?_⟩; replace HO_544002 := zRb HO_544002 hb; replace HO_545002 := zRb HO_545002 hb; replace BK543 := zKb BK543 hb; replace BK544 := zKb BK544 hb; replace HB := zBs hb; have p34 : 0 ≤ (x9_2 : Int) := zD; have q34 : x9_2 < (15 : Int) := zD; have hx34 := bt_at (⟨#[32, 10, 48, 49, 53, 57, 97, 102, 69, 65, 78, 121, 45, 0, 255]⟩ : ByteArray) x9_2; replace p34 := eq_true p34; replace q34 := eq_true q34) | (go_at_call 17; (with_reducible refine (aL_change.calls t557 x8_1 x10_3 (bt (⟨#[32, 10, 48, 49, 53, 57, 97, 102, 69, 65, 78, 121, 45, 0, 255]⟩ : ByteArray) x9_2) t561 _ A35.out).mono ?_); rintro e w44 ⟨rfl, hb⟩; replace HO_544002 := zRb HO_544002 hb; replace HO_545002 := zRb HO_545002 hb; replace BK543 := zKb BK543 hb; replace BK544 := zKb BK544 hb; replace HB := zBs hb) | (go_at_call 10; (with_reducible refine (aL_reads.calls k3 t561 false _ ?side1 A36.out).mono ?_); (case side1 => exact GG.below HG.out zB); rintro e w45 ⟨rfl, hb⟩; replace HO_544002 := zRb HO_544002 hb; replace HO_545002 := zRb HO_545002 hb; replace BK543 := zKb BK543 hb; replace BK544 := zKb BK544 hb; replace HB := zBs hb))
             go_ret
             exact ⟨zE, zB⟩
           ·
            rw [if_neg c33] at H
            have c33b0 := decide_eq_false c33; clear c33; have H' := Zs.mk H; clear H; have p29 : 0 ≤ (x9_2 : Int) := zD; have q29 : x9_2 < (15 : Int) := zD; have hx29 := bt_at (⟨#[32, 10, 48, 49, 53, 57, 97, 102, 69, 65, 78, 121, 45, 0, 255]⟩ : ByteArray) x9_2; replace p29 := eq_true p29; replace q29 := eq_true q29
            go_wp2_with (first | ((with_reducible refine gkc (f := 17) rfl ?_); refine zgo (some 55) Tryz.func17 #[.string t550, .int .i64 x8_1, .int .i64 x10_3, .int .u8 (bt (⟨#[32, 10, 48, 49, 53, 57, 97, 102, 69, 65, 78, 121, 45, 0, 255]⟩ : ByteArray) x9_2)] ?_; (with_reducible refine (aL_change.calls t550 x8_1 x10_3 (bt (⟨#[32, 10, 48, 49, 53, 57, 97, 102, 69, 65, 78, 121, 45, 0, 255]⟩ : ByteArray) x9_2) t559 _ A30.out).mono ?_); rintro e w46 ⟨rfl, hb⟩; refine ⟨_, rfl, ?_⟩; replace HO_544002 := zRb HO_544002 hb; replace HO_545002 := zRb HO_545002 hb; replace BK543 := zKb BK543 hb; replace BK544 := zKb BK544 hb; replace HB := zBs hb) | ((with_reducible refine gkc (f := 10) rfl ?_); refine zgo (some 56) Tryz.func10 #[.string t559] ?_; (with_reducible refine (aL_reads.calls k3 t559 true _ ?side1 A31.out).mono ?_); (case side1 => exact GG.below HG.out zB); rintro e w47 ⟨rfl, hb⟩; refine ⟨_, rfl, ?_⟩; replace HO_544002 := zRb HO_544002 hb; replace HO_545002 := zRb HO_545002 hb; replace BK543 := zKb BK543 hb; replace BK544 := zKb BK544 hb; replace HB := zBs hb))
            go_roundg k3
            case measure => have := HK1.out; have := HK2.out; have := HK3.out; omega
            case rel => exact ⟨(wrap64 (x10_3 + 1)), zs, H', ⟨by have := HK1.out; have := HK2.out; have := HK3.out; omega⟩, ⟨zR HO_544002⟩, ⟨zR HO_545002⟩, ⟨zK BK543⟩, ⟨zK BK544⟩, ⟨zB⟩⟩
          ·
           replace c32 := Bool.eq_false_iff.mpr c32; subst c32
           rw [if_neg (show ¬ (false = true) by decide)] at H
           obtain rfl := Option.some.inj H; have p29 : 0 ≤ (x9_2 : Int) := zD; have q29 : x9_2 < (15 : Int) := zD; have hx29 := bt_at (⟨#[32, 10, 48, 49, 53, 57, 97, 102, 69, 65, 78, 121, 45, 0, 255]⟩ : ByteArray) x9_2; replace p29 := eq_true p29; replace q29 := eq_true q29
           go_wp2_with (first | ((with_reducible refine gkc (f := 17) rfl ?_); refine zgo (some 55) Tryz.func17 #[.string t550, .int .i64 x8_1, .int .i64 x10_3, .int .u8 (bt (⟨#[32, 10, 48, 49, 53, 57, 97, 102, 69, 65, 78, 121, 45, 0, 255]⟩ : ByteArray) x9_2)] ?_; (with_reducible refine (aL_change.calls t550 x8_1 x10_3 (bt (⟨#[32, 10, 48, 49, 53, 57, 97, 102, 69, 65, 78, 121, 45, 0, 255]⟩ : ByteArray) x9_2) t559 _ A30.out).mono ?_); rintro e w48 ⟨rfl, hb⟩; refine ⟨_, rfl, ?_⟩; replace HO_544002 := zRb HO_544002 hb; replace HO_545002 := zRb HO_545002 hb; replace BK543 := zKb BK543 hb; replace BK544 := zKb BK544 hb; replace HB := zBs hb) | ((with_reducible refine gkc (f := 10) rfl ?_); refine zgo (some 56) Tryz.func10 #[.string t559] ?_; (with_reducible refine (aL_reads.calls k3 t559 false _ ?side1 A31.out).mono ?_); (case side1 => exact GG.below HG.out zB); rintro e w49 ⟨rfl, hb⟩; refine ⟨_, rfl, ?_⟩; replace HO_544002 := zRb HO_544002 hb; replace HO_545002 := zRb HO_545002 hb; replace BK543 := zKb BK543 hb; replace BK544 := zKb BK544 hb; replace HB := zBs hb))
           go_ret
           exact ⟨zE, zB⟩
         ·
          rw [if_neg c26] at H
          have c26b0 := decide_eq_false c26; clear c26; have H' := Zs.mk H; clear H
          go_wp2
          go_roundg k3
          case measure => have := HK1.out; have := HK2.out; have := HK3.out; omega
          case rel => exact ⟨(wrap64 (x9_2 + 1)), zs, H', ⟨by have := HK1.out; have := HK2.out; have := HK3.out; omega⟩, ⟨zR HO_544002⟩, ⟨zR HO_545002⟩, ⟨zK BK543⟩, ⟨zK BK544⟩, ⟨zB⟩⟩
      ·
       rw [if_neg c25] at H
       have c25b0 := decide_eq_false c25; clear c25; have H' := Zs.mk H; clear H
       go_wp2
       go_roundg k2
       case measure => have := HK1.out; have := HK2.out; omega
       case rel => exact ⟨(wrap64 (x8_1 + 1)), zs, H', ⟨by have := HK1.out; have := HK2.out; omega⟩, ⟨zR HO_544002⟩, ⟨zR HO_545002⟩, ⟨zK BK543⟩, ⟨zK BK544⟩, ⟨zB⟩⟩
   ·
    rw [if_neg c24] at H
    have c24b0 := decide_eq_false c24; clear c24
    obtain ⟨y563, hy563⟩ : ∃ y_ : List Int, y_ = (([(-9223372036854775808), (-1), 0, 1, 5, 9, 10, 65535, 65536, 1099511627776, 1099511627777, 9223372036854775807] : List Int)) := ⟨_, rfl⟩
    replace H : (aL_BankSmall.l3 k1 y563 0) = some r := by first | (rw [hy563]; with_reducible exact H) | (have H2_ := (Option.bind_some _ _).symm.trans H; rw [hy563]; with_reducible exact H2_) | (have H2_ := (Option.bind_some _ _).symm.trans H; with_reducible exact H2_) | with_reducible exact H | (rw [hy563]; exact H) | exact H
    have Ny563 := Zs.mk hy563; clear hy563; have H' := Zs.mk H; clear H
    try clear HO537 HO542 HO549 HO556
    try clear HO_544002 HO_545002
    have H := H'.out
    clear H'
    cases k1 with
    | zero => exact absurd H (by simp [aL_BankSmall.l3])
    | succ k2 =>
    simp only [aL_BankSmall.l3] at H
    replace H := Option.bind_eq_some_iff.mp H
    obtain ⟨t566, A840, H⟩ := H
    (try dsimp only [-Int.reduceToNat] at H)
    have A84 := Zs.mk A840
    have HX := Zs.mk H
    clear A840 H
    go_wp2_with (first | ((with_reducible refine gkd (N := 75) rfl ?_); (try (refine gate_guard (by rfl) ?_; dsimp only)); refine Kd.R_lit (Kd.int .i64) _ 3 ?hg (N := 75) ?hd (xs := ([(-9223372036854775808), (-1), 0, 1, 5, 9, 10, 65535, 65536, 1099511627776, 1099511627777, 9223372036854775807] : List Int)) (inner := [.int .i64 (-9223372036854775808), .int .i64 (-1), .int .i64 0, .int .i64 1, .int .i64 5, .int .i64 9, .int .i64 10, .int .i64 65535, .int .i64 65536, .int .i64 1099511627776, .int .i64 1099511627777, .int .i64 9223372036854775807]) (ok := fun _ => True) (okp := fun _ => True) ?hr ?hp (fun _ hk => hk) trivial (Below.refl _ _) (Nat.le_refl _) (by simp) ?_; (case hd => rfl); (case hg => rfl); (case hr => first | (go_simp; done) | (go_simp; rfl)); (case hp => exact (Reps.one (show Kd.M (Kd.int .i64) _ _ _ (-9223372036854775808) [.int .i64 (-9223372036854775808)] from rfl) (Reps.one (show Kd.M (Kd.int .i64) _ _ _ (-1) [.int .i64 (-1)] from rfl) (Reps.one (show Kd.M (Kd.int .i64) _ _ _ 0 [.int .i64 0] from rfl) (Reps.one (show Kd.M (Kd.int .i64) _ _ _ 1 [.int .i64 1] from rfl) (Reps.one (show Kd.M (Kd.int .i64) _ _ _ 5 [.int .i64 5] from rfl) (Reps.one (show Kd.M (Kd.int .i64) _ _ _ 9 [.int .i64 9] from rfl) (Reps.one (show Kd.M (Kd.int .i64) _ _ _ 10 [.int .i64 10] from rfl) (Reps.one (show Kd.M (Kd.int .i64) _ _ _ 65535 [.int .i64 65535] from rfl) (Reps.one (show Kd.M (Kd.int .i64) _ _ _ 65536 [.int .i64 65536] from rfl) (Reps.one (show Kd.M (Kd.int .i64) _ _ _ 1099511627776 [.int .i64 1099511627776] from rfl) (Reps.one (show Kd.M (Kd.int .i64) _ _ _ 1099511627777 [.int .i64 1099511627777] from rfl) (Reps.one (show Kd.M (Kd.int .i64) _ _ _ 9223372036854775807 [.int .i64 9223372036854775807] from rfl) (Reps.none _ _)))))))))))))); intro v564 w50 ho51 hb hg_ hnew_; clear hg_ hnew_; (first | rw [← Ny563.out] at ho51 | (simp only [Int.reduceToNat] at ho51; rw [← Ny563.out] at ho51)); have HO565 := Zs.mk (Kd.R_lower ho51 (bsz zB)); replace HB := zBs hb; clear hb ho51))
    obtain ⟨gE, cE, eE, bE, lE, RE0⟩ := row_ints (n := 12) HO565.out (by rw [Ny563.out]; rfl) (by decide)
    subst eE
    have RE := Zs.mk RE0
    have hl12 := Zs.mk (show y563.length = 12 by rw [Ny563.out]; rfl)
    clear RE0 HO565 Ny563 bE lE
    go_loopw [12] (fun x wr => ∃ i : Nat, x = .int .i64 (i : Int) ∧ i ≤ 12 ∧ Zs (Below w.heap.size w wr) ∧ Zs (RowN wr 3 gE y563)) (fun x _ => 12 - (intOf x).toNat)
    case atStart => exact ⟨0, rfl, by omega, ⟨zB⟩, zW0 RE⟩
    case round =>
     clear HB RE
     obtain ⟨i, rfl, hi12, HB, RE⟩ := hrel
     have HI := Zs.mk hi12
     clear hi12
     by_cases hlt : i < 12
     ·
      have hc0 : ((i : Int) < 12) = True := eq_true (by omega)
      have HLT := Zs.mk hlt
      clear hlt
      go_wp2
      go_loopw [13] (fun x wr2 => ∃ j : Nat, x = .int .i64 (j : Int) ∧ j ≤ 10 ∧ Zs (Below w.heap.size w wr2) ∧ Zs (RowN wr2 3 gE y563)) (fun x _ => 10 - (intOf x).toNat)
      case atStart => exact ⟨0, rfl, by omega, ⟨zB⟩, zW0 RE⟩
      case round =>
       clear HB RE
       obtain ⟨j, rfl, hj10, HB, RE⟩ := hrel
       have HJ := Zs.mk hj10
       clear hj10
       by_cases hjt : j < 10
       ·
        have hc1 : ((j : Int) < 10) = True := eq_true (by omega)
        have HJT := Zs.mk hjt
        clear hjt
        go_upto_region 24 with (first | ((with_reducible refine gkc (f := 12) rfl ?_); refine zgo (some 87) Tryz.func12 #[] ?_; (with_reducible refine (aL_two.calls 7 100 [⟨3, 55, 1000, 200, 800⟩, ⟨4, 56, 50, 0, 50⟩] 7 102 [⟨4, 2⟩] _ rfl).mono ?_); rintro e w58 ⟨v571, v576, rfl, ho0, ho1, hb⟩; refine ⟨_, rfl, ?_⟩; obtain ⟨gO, cO, eO, bO, lO, RO0⟩ := two_orders ho0; obtain ⟨gR, cR, eR, bR, lR, RR0⟩ := one_return ho1; subst eO; subst eR; have RO := Zs.mk RO0; have RR := Zs.mk RR0; have LO := Zs.mk lO; have LR := Zs.mk lR; have GO := Zs.mk (Nat.le_trans (bsz zB) bO : w.heap.size ≤ gO); have GR := Zs.mk (Nat.le_trans (bsz zB) bR : w.heap.size ≤ gR); replace RE := zW RE hb; replace HB := zBs hb; clear hb ho0 ho1 bO bR lO lR RO0 RR0) | ((with_reducible refine gkd (N := 14) rfl ?_); (try (refine gate_guard (by rfl) ?_; dsimp only)); refine bxe ?hg (N := 14) ?hd (cs := #[.int .i64 0, .int .i64 0, .slice none 0 0]) (t := 27) ?hr ?_; (case hd => rfl); (case hg => rfl); (case hr => first | (go_simp; done) | (go_simp; rfl)); intro gb578 hg w59 hbox hb; have BK578 := Zs.mk (hbox); have GE578 := zG (w := w) hg; replace RE := zW RE hb; replace RO := zW RO hb; replace RR := zW RR hb; replace HB := zBs hb; clear hb hbox hg) | ((with_reducible refine gkd (N := 15) rfl ?_); (try (refine gate_guard (by rfl) ?_; dsimp only)); refine bxe ?hg (N := 15) ?hd (cs := #[.int .i64 0, .int .i64 0, .slice none 0 0]) (t := 30) ?hr ?_; (case hd => rfl); (case hg => rfl); (case hr => first | (go_simp; done) | (go_simp; rfl)); intro gb579 hg w60 hbox hb; have BK579 := Zs.mk (hbox); have GE579 := zG (w := w) hg; replace RE := zW RE hb; replace RO := zW RO hb; replace RR := zW RR hb; replace HB := zBs hb; replace BK578 := zKb BK578 hb; clear hb hbox hg; have hnb63 := blk_ne BK578.out BK579.out (by decide); have hnc63 := blk_ne BK579.out BK578.out (by decide); obtain ⟨hcz64_0, hcz64_1, hcz64_2⟩ := zC3 BK578; obtain ⟨hfz64_0, hfz64_1, hfz64_2⟩ := zZ3 BK578; obtain ⟨hcz68_0, hcz68_1, hcz68_2⟩ := zC3 BK579; obtain ⟨hfz68_0, hfz68_1, hfz68_2⟩ := zZ3 BK579))
        have nGB := hnb63
        have nBG := hnc63
        have nEG := RE.out.ne_blk BK578.out (by decide)
        have nEB := RE.out.ne_blk BK579.out (by decide)
        have nOG := RO.out.ne_blk BK578.out (by decide)
        have nOB := RO.out.ne_blk BK579.out (by decide)
        have nRG := RR.out.ne_blk BK578.out (by decide)
        have nRB := RR.out.ne_blk BK579.out (by decide)
        have nEO := RE.out.ne RO.out (by decide)
        have nER := RE.out.ne RR.out (by decide)
        have nOR := RO.out.ne RR.out (by decide)
        clear hnb63 hnc63 hcz64_0 hcz64_1 hcz64_2 hfz64_0 hfz64_1 hfz64_2 hcz68_0 hcz68_1 hcz68_2 hfz68_0 hfz68_1 hfz68_2
        have key : ∀ V : World, V = ((((((w60.setCell ⟨gb578, 0, none⟩ (.int .i64 7)).setCell ⟨gb578, 1, none⟩ (.int .i64 100)).setCell ⟨gb578, 2, none⟩ (.slice (some ⟨gO, 0, none⟩) 2 cO)).setCell ⟨gb579, 0, none⟩ (.int .i64 7)).setCell ⟨gb579, 1, none⟩ (.int .i64 102)).setCell ⟨gb579, 2, none⟩ (.slice (some ⟨gR, 0, none⟩) 1 cR)) → Zs (V.heap[gb578]? = some (.cells #[.int .i64 7, .int .i64 100, .slice (some ⟨gO, 0, none⟩) 2 cO] 27 (0, 0))) ∧ Zs (V.heap[gb579]? = some (.cells #[.int .i64 7, .int .i64 102, .slice (some ⟨gR, 0, none⟩) 1 cR] 30 (0, 0))) ∧ Zs (RowN V 47 gO [3, 55, 1000, 200, 800, 4, 56, 50, 0, 50]) ∧ Zs (RowN V 49 gR [4, 2]) ∧ Zs (RowN V 3 gE y563) ∧ Zs (Below w.heap.size w V) := by
          rintro V rfl
          exact ⟨⟨blk_far (blk_far (blk_far (blk_put (blk_put (blk_put BK578.out 0 _ rfl) 1 _ rfl) 2 _ rfl) nGB _) nGB _) nGB _⟩, ⟨blk_put (blk_put (blk_put (blk_far (blk_far (blk_far BK579.out nBG _) nBG _) nBG _) 0 _ rfl) 1 _ rfl) 2 _ rfl⟩,
            ⟨(((((RO.out.far nOG _).far nOG _).far nOG _).far nOB _).far nOB _).far nOB _⟩, ⟨(((((RR.out.far nRG _).far nRG _).far nRG _).far nRB _).far nRB _).far nRB _⟩, ⟨(((((RE.out.far nEG _).far nEG _).far nEG _).far nEB _).far nEB _).far nEB _⟩, ⟨zB⟩⟩
        obtain ⟨V, hV⟩ : ∃ V : World, V = ((((((w60.setCell ⟨gb578, 0, none⟩ (.int .i64 7)).setCell ⟨gb578, 1, none⟩ (.int .i64 100)).setCell ⟨gb578, 2, none⟩ (.slice (some ⟨gO, 0, none⟩) 2 cO)).setCell ⟨gb579, 0, none⟩ (.int .i64 7)).setCell ⟨gb579, 1, none⟩ (.int .i64 102)).setCell ⟨gb579, 2, none⟩ (.slice (some ⟨gR, 0, none⟩) 1 cR)) := ⟨_, rfl⟩
        rw [← hV]
        clear BK578 BK579 RO RR RE HB
        obtain ⟨BG, BB, RO, RR, RE, HB⟩ := key V hV
        clear key hV
        obtain ⟨hg0, hg1, hg2⟩ := zC3 BG
        obtain ⟨fg0, fg1, fg2⟩ := zZ3 BG
        obtain ⟨hb0, hb1, hb2⟩ := zC3 BB
        obtain ⟨fb0, fb1, fb2⟩ := zZ3 BB
        obtain ⟨m, hm, hm2⟩ : ∃ m : Nat, Int.tmod (j : Int) 2 = (m : Int) ∧ m < 2 := ⟨j % 2, rfl, Nat.mod_lt _ (by decide)⟩
        have hm0 : (0 ≤ (m : Int)) = True := eq_true (by omega)
        have hm1 : ((m : Int) < 2) = True := eq_true (by omega)
        have HM := Zs.mk hm2
        clear hm2
        go_upto_block 10 with (fail)
        obtain ⟨q, hq⟩ : ∃ q : Nat, q = m * 5 := ⟨_, rfl⟩
        rw [← hq]
        have HQ := Zs.mk (show q ≤ 5 by rw [hq]; have := HM.out; omega)
        clear hq hm hm0 hm1 HM
        go_cut [] (fun wc => ∃ (n1 d1 n2 d2 : Int) (ns1 ns2 : List Int), Zs (ns1.length = 10) ∧ Zs (ns2.length = 2) ∧ Zs (wc.heap[gb578]? = some (.cells #[.int .i64 n1, .int .i64 d1, .slice (some ⟨gO, 0, none⟩) 2 cO] 27 (0, 0))) ∧ Zs (wc.heap[gb579]? = some (.cells #[.int .i64 n2, .int .i64 d2, .slice (some ⟨gR, 0, none⟩) 1 cR] 30 (0, 0))) ∧ Zs (RowN wc 47 gO ns1) ∧ Zs (RowN wc 49 gR ns2) ∧ Zs (RowN wc 3 gE y563) ∧ Zs (Below w.heap.size w wc))
        case first =>
          have hE := RE.out.cell i (by rw [hl12.out]; exact HLT.out)
          obtain ⟨e1, he1⟩ : ∃ e1, y563.getD i 0 = e1 := ⟨_, rfl⟩
          rw [he1] at hE
          clear he1
          have hi0 : (0 ≤ (i : Int)) = True := eq_true (by omega)
          have hw3 : wrap64 ((i : Int) + 3) = ((i + 3 : Nat) : Int) := by rw [IntWalk.wrap64_in (n := (i : Int) + 3) ⟨by omega, by have := HLT.out; omega⟩]; rfl
          obtain ⟨p, hp, hp2⟩ : ∃ p : Nat, Int.tmod (wrap64 ((i : Int) + 3)) 12 = (p : Int) ∧ p < 12 := ⟨(i + 3) % 12, by rw [hw3]; rfl, Nat.mod_lt _ (by decide)⟩
          clear hw3
          have hp0 : (0 ≤ (p : Int)) = True := eq_true (by omega)
          have hp1 : ((p : Int) < 12) = True := eq_true (by omega)
          have hF := RE.out.cell p (by rw [hl12.out]; exact hp2)
          obtain ⟨e3, he3⟩ : ∃ e3, y563.getD p 0 = e3 := ⟨_, rfl⟩
          rw [he3] at hF
          clear he3 hp2
          have hj : j = 0 ∨ j = 1 ∨ j = 2 ∨ j = 3 ∨ j = 4 ∨ j = 5 ∨ j = 6 ∨ j = 7 ∨ j = 8 ∨ j = 9 := by have := HJT.out; omega
          clear hc1 HJ HJT
          rcases hj with rfl | rfl | rfl | rfl | rfl | rfl | rfl | rfl | rfl | rfl
          ·
           have f0 : (((0 : Nat) : Int) == 0) = true := by decide
           go_wp2_with (fail)
           go_meet
           case rel => exact ⟨e1, 100, 7, 102, [3, 55, 1000, 200, 800, 4, 56, 50, 0, 50], [4, 2], ⟨rfl⟩, ⟨rfl⟩, ⟨(blk_put BG.out 0 _ rfl)⟩, ⟨(blk_far BB.out nBG _)⟩, ⟨(RO.out.far nOG _)⟩, ⟨(RR.out.far nRG _)⟩, ⟨(RE.out.far nEG _)⟩, ⟨zB⟩⟩
          ·
           have f0 : (((1 : Nat) : Int) == 0) = false := by decide
           have f1 : (((1 : Nat) : Int) == 1) = true := by decide
           go_upto_region 29 with (fail)
           go_region
           all_goals go_wp2_with (fail)
           all_goals go_meet
           all_goals (case rel => exact ⟨7, e1, 7, e3, [3, 55, 1000, 200, 800, 4, 56, 50, 0, 50], [4, 2], ⟨rfl⟩, ⟨rfl⟩, ⟨(blk_far (blk_put BG.out 1 _ rfl) nGB _)⟩, ⟨(blk_put (blk_far BB.out nBG _) 1 _ rfl)⟩, ⟨((RO.out.far nOG _).far nOB _)⟩, ⟨((RR.out.far nRG _).far nRB _)⟩, ⟨((RE.out.far nEG _).far nEB _)⟩, ⟨zB⟩⟩)
          ·
           have f0 : (((2 : Nat) : Int) == 0) = false := by decide
           have f1 : (((2 : Nat) : Int) == 1) = false := by decide
           have f2 : (((2 : Nat) : Int) == 2) = true := by decide
           have hO := RO.out.cell q (by have := HQ.out; show _ < 10; omega)
           have fO := RO.out.frozen q
           obtain ⟨o, ho⟩ : ∃ o : Int, List.getD ([3, 55, 1000, 200, 800, 4, 56, 50, 0, 50] : List Int) q 0 = o := ⟨_, rfl⟩
           rw [ho] at hO
           clear ho
           go_wp2_with (fail)
           go_meet
           case rel => exact ⟨7, 100, 7, 102, (List.set [3, 55, 1000, 200, 800, 4, 56, 50, 0, 50] q e1), [4, 2], ⟨by rw [List.length_set]; rfl⟩, ⟨rfl⟩, ⟨(blk_far BG.out (Ne.symm nOG) _)⟩, ⟨(blk_far BB.out (Ne.symm nOB) _)⟩, ⟨(RowN.set RO.out q (by have := HQ.out; show _ < 10; omega) _)⟩, ⟨(RR.out.far (Ne.symm nOR) _)⟩, ⟨(RE.out.far nEO _)⟩, ⟨zB⟩⟩
          ·
           have f0 : (((3 : Nat) : Int) == 0) = false := by decide
           have f1 : (((3 : Nat) : Int) == 1) = false := by decide
           have f2 : (((3 : Nat) : Int) == 2) = false := by decide
           have f3 : (((3 : Nat) : Int) == 3) = true := by decide
           have hO := RO.out.cell (q + 1) (by have := HQ.out; show _ < 10; omega)
           have fO := RO.out.frozen (q + 1)
           obtain ⟨o, ho⟩ : ∃ o : Int, List.getD ([3, 55, 1000, 200, 800, 4, 56, 50, 0, 50] : List Int) (q + 1) 0 = o := ⟨_, rfl⟩
           rw [ho] at hO
           clear ho
           go_wp2_with (fail)
           go_meet
           case rel => exact ⟨7, 100, 7, 102, (List.set [3, 55, 1000, 200, 800, 4, 56, 50, 0, 50] (q + 1) e1), [4, 2], ⟨by rw [List.length_set]; rfl⟩, ⟨rfl⟩, ⟨(blk_far BG.out (Ne.symm nOG) _)⟩, ⟨(blk_far BB.out (Ne.symm nOB) _)⟩, ⟨(RowN.set RO.out (q + 1) (by have := HQ.out; show _ < 10; omega) _)⟩, ⟨(RR.out.far (Ne.symm nOR) _)⟩, ⟨(RE.out.far nEO _)⟩, ⟨zB⟩⟩
          ·
           have f0 : (((4 : Nat) : Int) == 0) = false := by decide
           have f1 : (((4 : Nat) : Int) == 1) = false := by decide
           have f2 : (((4 : Nat) : Int) == 2) = false := by decide
           have f3 : (((4 : Nat) : Int) == 3) = false := by decide
           have f4 : (((4 : Nat) : Int) == 4) = true := by decide
           have hO := RO.out.cell (q + 2) (by have := HQ.out; show _ < 10; omega)
           have fO := RO.out.frozen (q + 2)
           obtain ⟨o, ho⟩ : ∃ o : Int, List.getD ([3, 55, 1000, 200, 800, 4, 56, 50, 0, 50] : List Int) (q + 2) 0 = o := ⟨_, rfl⟩
           rw [ho] at hO
           clear ho
           go_wp2_with (fail)
           go_meet
           case rel => exact ⟨7, 100, 7, 102, (List.set [3, 55, 1000, 200, 800, 4, 56, 50, 0, 50] (q + 2) e1), [4, 2], ⟨by rw [List.length_set]; rfl⟩, ⟨rfl⟩, ⟨(blk_far BG.out (Ne.symm nOG) _)⟩, ⟨(blk_far BB.out (Ne.symm nOB) _)⟩, ⟨(RowN.set RO.out (q + 2) (by have := HQ.out; show _ < 10; omega) _)⟩, ⟨(RR.out.far (Ne.symm nOR) _)⟩, ⟨(RE.out.far nEO _)⟩, ⟨zB⟩⟩
          ·
           have f0 : (((5 : Nat) : Int) == 0) = false := by decide
           have f1 : (((5 : Nat) : Int) == 1) = false := by decide
           have f2 : (((5 : Nat) : Int) == 2) = false := by decide
           have f3 : (((5 : Nat) : Int) == 3) = false := by decide
           have f4 : (((5 : Nat) : Int) == 4) = false := by decide
           have f5 : (((5 : Nat) : Int) == 5) = true := by decide
           have hO := RO.out.cell (q + 3) (by have := HQ.out; show _ < 10; omega)
           have fO := RO.out.frozen (q + 3)
           obtain ⟨o, ho⟩ : ∃ o : Int, List.getD ([3, 55, 1000, 200, 800, 4, 56, 50, 0, 50] : List Int) (q + 3) 0 = o := ⟨_, rfl⟩
           rw [ho] at hO
           clear ho
           go_wp2_with (fail)
           go_meet
           case rel => exact ⟨7, 100, 7, 102, (List.set [3, 55, 1000, 200, 800, 4, 56, 50, 0, 50] (q + 3) e1), [4, 2], ⟨by rw [List.length_set]; rfl⟩, ⟨rfl⟩, ⟨(blk_far BG.out (Ne.symm nOG) _)⟩, ⟨(blk_far BB.out (Ne.symm nOB) _)⟩, ⟨(RowN.set RO.out (q + 3) (by have := HQ.out; show _ < 10; omega) _)⟩, ⟨(RR.out.far (Ne.symm nOR) _)⟩, ⟨(RE.out.far nEO _)⟩, ⟨zB⟩⟩
          ·
           have f0 : (((6 : Nat) : Int) == 0) = false := by decide
           have f1 : (((6 : Nat) : Int) == 1) = false := by decide
           have f2 : (((6 : Nat) : Int) == 2) = false := by decide
           have f3 : (((6 : Nat) : Int) == 3) = false := by decide
           have f4 : (((6 : Nat) : Int) == 4) = false := by decide
           have f5 : (((6 : Nat) : Int) == 5) = false := by decide
           have f6 : (((6 : Nat) : Int) == 6) = true := by decide
           have hO := RO.out.cell (q + 4) (by have := HQ.out; show _ < 10; omega)
           have fO := RO.out.frozen (q + 4)
           obtain ⟨o, ho⟩ : ∃ o : Int, List.getD ([3, 55, 1000, 200, 800, 4, 56, 50, 0, 50] : List Int) (q + 4) 0 = o := ⟨_, rfl⟩
           rw [ho] at hO
           clear ho
           go_wp2_with (fail)
           go_meet
           case rel => exact ⟨7, 100, 7, 102, (List.set [3, 55, 1000, 200, 800, 4, 56, 50, 0, 50] (q + 4) e1), [4, 2], ⟨by rw [List.length_set]; rfl⟩, ⟨rfl⟩, ⟨(blk_far BG.out (Ne.symm nOG) _)⟩, ⟨(blk_far BB.out (Ne.symm nOB) _)⟩, ⟨(RowN.set RO.out (q + 4) (by have := HQ.out; show _ < 10; omega) _)⟩, ⟨(RR.out.far (Ne.symm nOR) _)⟩, ⟨(RE.out.far nEO _)⟩, ⟨zB⟩⟩
          ·
           have f0 : (((7 : Nat) : Int) == 0) = false := by decide
           have f1 : (((7 : Nat) : Int) == 1) = false := by decide
           have f2 : (((7 : Nat) : Int) == 2) = false := by decide
           have f3 : (((7 : Nat) : Int) == 3) = false := by decide
           have f4 : (((7 : Nat) : Int) == 4) = false := by decide
           have f5 : (((7 : Nat) : Int) == 5) = false := by decide
           have f6 : (((7 : Nat) : Int) == 6) = false := by decide
           have f7 : (((7 : Nat) : Int) == 7) = true := by decide
           go_wp2_with (fail)
           go_meet
           case rel => exact ⟨7, 100, e1, 102, [3, 55, 1000, 200, 800, 4, 56, 50, 0, 50], [4, 2], ⟨rfl⟩, ⟨rfl⟩, ⟨(blk_far BG.out nGB _)⟩, ⟨(blk_put BB.out 0 _ rfl)⟩, ⟨(RO.out.far nOB _)⟩, ⟨(RR.out.far nRB _)⟩, ⟨(RE.out.far nEB _)⟩, ⟨zB⟩⟩
          ·
           have f0 : (((8 : Nat) : Int) == 0) = false := by decide
           have f1 : (((8 : Nat) : Int) == 1) = false := by decide
           have f2 : (((8 : Nat) : Int) == 2) = false := by decide
           have f3 : (((8 : Nat) : Int) == 3) = false := by decide
           have f4 : (((8 : Nat) : Int) == 4) = false := by decide
           have f5 : (((8 : Nat) : Int) == 5) = false := by decide
           have f6 : (((8 : Nat) : Int) == 6) = false := by decide
           have f7 : (((8 : Nat) : Int) == 7) = false := by decide
           have f8 : (((8 : Nat) : Int) == 8) = true := by decide
           have hR := RR.out.cell 0 (by decide)
           have fR := RR.out.frozen 0
           go_upto_region 43 with (fail)
           go_region
           all_goals go_wp2_with (fail)
           all_goals go_meet
           all_goals (case rel => exact ⟨7, 100, 7, 102, [3, 55, 1000, 200, 800, 4, 56, 50, 0, 50], (List.set [4, 2] 0 e1), ⟨rfl⟩, ⟨rfl⟩, ⟨(blk_far BG.out (Ne.symm nRG) _)⟩, ⟨(blk_far BB.out (Ne.symm nRB) _)⟩, ⟨(RO.out.far nOR _)⟩, ⟨(RowN.set RR.out 0 (by decide) _)⟩, ⟨(RE.out.far nER _)⟩, ⟨zB⟩⟩)
          ·
           have f0 : (((9 : Nat) : Int) == 0) = false := by decide
           have f1 : (((9 : Nat) : Int) == 1) = false := by decide
           have f2 : (((9 : Nat) : Int) == 2) = false := by decide
           have f3 : (((9 : Nat) : Int) == 3) = false := by decide
           have f4 : (((9 : Nat) : Int) == 4) = false := by decide
           have f5 : (((9 : Nat) : Int) == 5) = false := by decide
           have f6 : (((9 : Nat) : Int) == 6) = false := by decide
           have f7 : (((9 : Nat) : Int) == 7) = false := by decide
           have f8 : (((9 : Nat) : Int) == 8) = false := by decide
           have f9 : (((9 : Nat) : Int) == 9) = true := by decide
           have hR := RR.out.cell 1 (by decide)
           have fR := RR.out.frozen 1
           go_upto_region 45 with (fail)
           go_region
           all_goals go_wp2_with (fail)
           all_goals go_meet
           all_goals (case rel => exact ⟨7, 100, 7, 102, [3, 55, 1000, 200, 800, 4, 56, 50, 0, 50], (List.set [4, 2] 1 e1), ⟨rfl⟩, ⟨rfl⟩, ⟨(blk_far BG.out (Ne.symm nRG) _)⟩, ⟨(blk_far BB.out (Ne.symm nRB) _)⟩, ⟨(RO.out.far nOR _)⟩, ⟨(RowN.set RR.out 1 (by decide) _)⟩, ⟨(RE.out.far nER _)⟩, ⟨zB⟩⟩)
        case rest =>
          clear BG BB RO RR RE HB hg0 hg1 hg2 fg0 fg1 fg2 hb0 hb1 hb2 fb0 fb1 fb2
          obtain ⟨n1, d1, n2, d2, ns1, ns2, L1, L2, BG, BB, RO, RR, RE, HB⟩ := hcut
          obtain ⟨hg0, hg1, hg2⟩ := zC3 BG
          obtain ⟨hb0, hb1, hb2⟩ := zC3 BB
          obtain ⟨k3, hk3⟩ := writes_ev n1 d1 [ord5 ns1, ord5 (ns1.drop 5)] n2 d2 [ret2 ns2] (by simp) (by simp)
          have AW := Zs.mk (hk3 k3 (Nat.le_refl _))
          clear hk3
          go_wp2_with (first | ((with_reducible refine gkc (f := 18) rfl ?_); refine zgo (some 191) Tryz.func18 #[.agg #[.int .i64 n1, .int .i64 d1, .slice (some ⟨gO, 0, none⟩) 2 cO], .agg #[.int .i64 n2, .int .i64 d2, .slice (some ⟨gR, 0, none⟩) 1 cR]] ?_; refine (aL_writes.calls k3 n1 d1 (some ⟨gO, 0, none⟩) cO [ord5 ns1, ord5 (ns1.drop 5)] n2 d2 (some ⟨gR, 0, none⟩) cR [ret2 ns2] true _ (C_orders RO.out L1.out) LO.out (C_returns RR.out L2.out) LR.out (GG.below HG.out zB) AW.out).mono ?_; rintro e w70 ⟨rfl, hb⟩; refine ⟨_, rfl, ?_⟩; replace RE := zW RE hb; replace HB := zBs hb; clear hb))
          go_roundw
          case rel => exact ⟨j + 1, by rw [IntWalk.wrap64_in (n := (j : Int) + 1) ⟨by omega, by have := HJT.out; omega⟩]; rfl, by have := HJT.out; omega, ⟨zB⟩, zW0 RE⟩
          case measure => have := HJT.out; rw [IntWalk.wrap64_in (n := (j : Int) + 1) ⟨by omega, by omega⟩]; simp [intOf]; omega
       ·
        have hc1 : ((j : Int) < 10) = False := eq_false (by omega)
        clear hjt
        go_wp2
        go_roundw
        case rel => exact ⟨i + 1, by rw [IntWalk.wrap64_in (n := (i : Int) + 1) ⟨by omega, by have := HLT.out; omega⟩]; rfl, by have := HLT.out; omega, ⟨zB⟩, zW0 RE⟩
        case measure => have := HLT.out; rw [IntWalk.wrap64_in (n := (i : Int) + 1) ⟨by omega, by omega⟩]; simp [intOf]; omega
     ·
      have hc0 : ((i : Int) < 12) = False := eq_false (by omega)
      clear hlt
      have H := HX.out
      clear HX
      by_cases c85 : t566 = true
      ·
       subst c85
       rw [if_pos rfl] at H
       replace H := Option.bind_eq_some_iff.mp H
       obtain ⟨t567, A860, H⟩ := H
       have A86 := Zs.mk A860
       clear A860
       obtain rfl := Option.some.inj H
       clear H
       go_wp2_with (first | ((with_reducible refine gkc (f := 19) rfl ?_); refine zgo (some 193) Tryz.func19 #[] ?_; (with_reducible refine (aL_limits.calls k2  true _ ?side1 A84.out).mono ?_); (case side1 => exact GG.below HG.out zB); rintro e w88 ⟨rfl, hb⟩; refine ⟨_, rfl, ?_⟩; replace HB := zBs hb; clear hb) | (go_at_call 9; (with_reducible refine (aL_awake.calls k2  t567 _ ?side1 A86.out).mono ?_); (case side1 => exact GG.below HG.out zB); rintro e w89 ⟨rfl, hb⟩; replace HB := zBs hb; clear hb))
       go_ret
       exact ⟨zE, zB⟩
      ·
       replace c85 := Bool.eq_false_iff.mpr c85
       subst c85
       rw [if_neg (show ¬ (false = true) by decide)] at H
       obtain rfl := Option.some.inj H
       go_wp2_with (first | ((with_reducible refine gkc (f := 19) rfl ?_); refine zgo (some 193) Tryz.func19 #[] ?_; (with_reducible refine (aL_limits.calls k2  false _ ?side1 A84.out).mono ?_); (case side1 => exact GG.below HG.out zB); rintro e w91 ⟨rfl, hb⟩; refine ⟨_, rfl, ?_⟩; replace HB := zBs hb; clear hb))
       go_ret
       exact ⟨zE, zB⟩
end
end Go.Proofs.YtndojpcjhkncgaaGreatDoor.Q
end
section
namespace Go.Proofs.YtndojpcjhkncgaaGreatDoor.Q
open Go Go.RowKit Go.Proofs.YtndojpcjhkncgaaGreatDoorW.PrintWords
section
theorem change_some (s : List UInt8) (hs : s.length ≤ 1048576) (i : Nat) (hi : i < s.length) (how : Nat) (hh : how < 3) (c : Int) : ∃ r : List UInt8, aL_change.f (B s) (i : Int) (how : Int) c = some (B r) ∧ r.length ≤ 1048577 := by
  match how, hh with
  | 0, _ => exact ⟨_, replace_ev s (by omega) i hi c, by rw [List.length_append, List.length_cons, List.length_take, List.length_drop]; omega⟩
  | 1, _ => exact ⟨_, insert_ev s (by omega) i (Nat.le_of_lt hi) c, by rw [List.length_append, List.length_cons, List.length_take, List.length_drop]; omega⟩
  | 2, _ => exact ⟨_, remove_ev s (by omega) i hi c, by rw [List.length_append, List.length_take, List.length_drop]; omega⟩
theorem small_l2 (s t : List UInt8) (hs : s.length ≤ 1048576) (ht : t.length ≤ 1048576) (i : Nat) (hi : i < s.length) (q : Nat) (hq : q < 15) (h : Ev (fun k => aL_BankSmall.l1 k (B s) (B t) (i : Int) ((q + 1 : Nat) : Int)) true) (d : Nat) : ∀ how : Nat, how + d = 3 →
    Ev (fun k => aL_BankSmall.l2 k (B s) (B t) (i : Int) (q : Int) (how : Int)) true := by
  induction d with
  | zero =>
    intro how hh
    refine Ev.step (fun k => by rw [aL_BankSmall.l2]) (Ev.neg (by omega) ?_)
    rw [w64 (n := (q : Int) + 1) (by omega) (by omega)]
    exact h
  | succ d ih =>
    intro how hh
    have hn := ih (how + 1) (by omega)
    have e1 : wrap64 ((how : Int) + 1) = ((how + 1 : Nat) : Int) := w64 (by omega) (by omega)
    refine Ev.step (fun k => by rw [aL_BankSmall.l2]) (Ev.pos (by omega) (Ev.pos (by omega) (Ev.pos (by omega) ?_)))
    rw [e1]
    generalize bt (⟨#[32, 10, 48, 49, 53, 57, 97, 102, 69, 65, 78, 121, 45, 0, 255]⟩ : ByteArray) (q : Int) = c
    obtain ⟨r, hr, hrl⟩ := change_some s hs i hi how (by omega) c
    refine Ev.const hr (Ev.bind (reads_ev r (by omega)) (Ev.pos rfl ?_))
    by_cases hit : i < t.length
    · obtain ⟨r', hr', hrl'⟩ := change_some t ht i hit how (by omega) c
      exact Ev.pos (by rw [B_size]; omega) (Ev.const hr' (Ev.bind (reads_ev r' (by omega)) (Ev.pos rfl hn)))
    · exact Ev.neg (by rw [B_size]; omega) hn
theorem small_l1 (s t : List UInt8) (hs : s.length ≤ 1048576) (ht : t.length ≤ 1048576) (i : Nat) (hi : i < s.length) (h : Ev (fun k => aL_BankSmall.l0 k (B s) (B t) ((i + 1 : Nat) : Int)) true) (d : Nat) : ∀ q : Nat, q + d = 15 →
    Ev (fun k => aL_BankSmall.l1 k (B s) (B t) (i : Int) (q : Int)) true := by
  induction d with
  | zero =>
    intro q hq
    refine Ev.step (fun k => by rw [aL_BankSmall.l1]) (Ev.neg (by omega) ?_)
    rw [w64 (n := (i : Int) + 1) (by omega) (by omega)]
    exact h
  | succ d ih =>
    intro q hq
    refine Ev.step (fun k => by rw [aL_BankSmall.l1]) (Ev.pos (by omega) ?_)
    exact small_l2 s t hs ht i hi q (by omega) (ih (q + 1) (by omega)) 3 0 (by omega)
theorem small_l0 (s t : List UInt8) (hs : s.length ≤ 1048576) (ht : t.length ≤ 1048576) (d : Nat) : ∀ i : Nat, i + d = s.length →
    Ev (fun k => aL_BankSmall.l0 k (B s) (B t) (i : Int)) true := by
  induction d with
  | zero =>
    intro i hi
    refine Ev.step (fun k => by rw [aL_BankSmall.l0]) (Ev.neg (by rw [B_size]; omega) ?_)
    refine Ev.step (fun k => by rw [aL_BankSmall.l3]) (Ev.bind limits_ev (Ev.pos rfl (Ev.bind awake_ev (Ev.now true))))
  | succ d ih =>
    intro i hi
    refine Ev.step (fun k => by rw [aL_BankSmall.l0]) (Ev.pos (by rw [B_size]; omega) ?_)
    exact small_l1 s t hs ht i (by omega) (ih (i + 1) (by omega)) 15 0 (by omega)
theorem small_ev : Ev (fun k => aL_BankSmall.f k) true := by
  unfold aL_BankSmall.f
  refine Ev.const (show aL_two.f = some _ from rfl) (Ev.const (show aL_plain.f _ _ _ = some _ from rfl) ?_)
  have hw := refWrite_ev 7 100 [⟨3, 55, 1000, 200, 800⟩, ⟨4, 56, 50, 0, 50⟩] (by simp)
  have ha := refAnswer_ev 7 102 [⟨4, 2⟩] (by simp)
  obtain ⟨s, hs, hsl⟩ : ∃ s : List UInt8, (writeS 7 100 [⟨3, 55, 1000, 200, 800⟩, ⟨4, 56, 50, 0, 50⟩]).1 = B s ∧ s.length ≤ 1048576 := by
    unfold writeS
    split
    · rename_i h
      exact ⟨_, rfl, by have := fileText_len h; simp only [List.length_cons, List.length_nil] at this; omega⟩
    · exact ⟨[], rfl, by simp⟩
  obtain ⟨t, ht, htl⟩ : ∃ t : List UInt8, (answerS 7 102 [⟨4, 2⟩]).1 = B t ∧ t.length ≤ 1048576 := by
    unfold answerS
    split
    · rename_i h
      exact ⟨_, rfl, by have := answerText_len h; simp only [List.length_cons, List.length_nil] at this; omega⟩
    · exact ⟨[], rfl, by simp⟩
  refine Ev.bind hw (Ev.bind (old_ev 7 102 [⟨4, 2⟩] (by simp)) (Ev.bind ha ?_))
  rw [hs, ht]
  exact small_l0 s t hsl htl s.length 0 (by omega)
end
end Go.Proofs.YtndojpcjhkncgaaGreatDoor.Q
end

section
/- What comes in, by its type: a datum that was read at a type is a value of the type's own kind, and no slice or text in it is larger than memory. -/
end

section
/- The arguments of the laws on files and answers, opened. -/
end
section
namespace Go.Proofs.YtndojpcjhkncgaaGreatDoor.Q
open Go Go.RowKit
section
def laidAll : List (String × DataW Unit) := [("math/bits.deBruijn32tab", Rows.laid_math_bits_deBruijn32tab), ("math/bits.deBruijn64tab", Rows.laid_math_bits_deBruijn64tab), ("internal/strconv.uint64pow10", Rows.laid_internal_strconv_uint64pow10), ("unicode/utf8.acceptRanges", Rows.laid_unicode_utf8_acceptRanges), ("strconv.ErrRange", Rows.laid_strconv_ErrRange), ("strconv.ErrSyntax", Rows.laid_strconv_ErrSyntax), ("unicode/utf8.first", Rows.laid_unicode_utf8_first)]
theorem laid_pow : Rows.laid_internal_strconv_uint64pow10 (H := Unit) = Lib.tabData .u64 Lib.pow10Tab := by kernel_rfl
theorem laid_low : Rows.laid_math_bits_deBruijn64tab (H := Unit) = Lib.tabData .u8 (Lib.deBruijn64tab.map fun (n : Nat) => (n : Int)) := by kernel_rfl
theorem row_err (u : TypeId) (h : Tryz.prog.typeName? 3 u = some "*errors.errorString") : u = 185 :=
  typeName_ptr_named (nm := "errors.errorString") (by kernel_rfl) (by kernel_rfl) (by decide) u h
theorem var_cell {w : World} {n : String} {g : Nat} {v : Value} (hg : Tryz.prog.globalNamed n = some g) (h : w.var? Tryz.prog n = some #[v]) : w.cell? ⟨g, 0, none⟩ = some v := by
  simpa using World.var?_cell hg h 0
theorem gg_of_laid {W : World} (h : laidMetH Tryz.prog laidAll W) (hs : W.ShapedOpen Tryz.prog) : GG W := by
  rw [MakeChecks.laidMetH_plain _ _ _ (by kernel_rfl)] at h
  have h1 := h.tail
  have h2 := h1.tail
  have h4 := h2.tail.tail
  have h5 := h4.tail
  rw [laid_low] at h1
  rw [laid_pow] at h2
  refine ⟨Lib.tabIs_of_head (P := Tryz.prog) (t := 163) (e := 127) (n := 20) named_pow (by kernel_rfl) (by kernel_rfl) (by kernel_rfl) (by kernel_rfl) (by kernel_rfl) h2, Lib.tabIs_of_head (P := Tryz.prog) (t := 189) (e := 5) (n := 64) named_low (by kernel_rfl) (by kernel_rfl) (by kernel_rfl) (by kernel_rfl) (by kernel_rfl) h1, ?_, ?_, ?_⟩
  · obtain ⟨a, s, hv, _⟩ := laid_sentinel h5 (show Tryz.prog.globalNamed "strconv.ErrSyntax" = some 2 by kernel_rfl) (show _ = some 102 by kernel_rfl) Tryz.underlying102 row_err Tryz.underlying185 Tryz.underlying187 rfl rfl Tryz.underlying9 (by kernel_rfl) (by kernel_rfl)
    exact ⟨_, var_cell (by kernel_rfl) hv, .inr ⟨_, _, rfl⟩⟩
  · obtain ⟨a, s, hv, _⟩ := laid_sentinel h4 (show Tryz.prog.globalNamed "strconv.ErrRange" = some 3 by kernel_rfl) (show _ = some 102 by kernel_rfl) Tryz.underlying102 row_err Tryz.underlying185 Tryz.underlying187 rfl rfl Tryz.underlying9 (by kernel_rfl) (by kernel_rfl)
    exact ⟨_, var_cell (by kernel_rfl) hv, .inr ⟨_, _, rfl⟩⟩
  · exact cell_of_shapedOpen_int (g := 1) (t := 3) (zero := #[.int .i64 0]) hs (of_decide_eq_true (by kernel_rfl)) (by kernel_rfl) rfl (by kernel_rfl) (by kernel_rfl) Tryz.underlying3
def firstCells : Array Value := (match Rows.laid_unicode_utf8_first with
  | .agg ds => ds.map fun (d : DataW Unit) => match d with
    | .lit (.int k n) => Value.int k n
    | _ => .nilIface
  | _ => []).toArray
noncomputable def doorZ (os : Os) : World :=
  { World.doorLaid Tryz.prog 72 os with heap := (World.doorLaid Tryz.prog 72 os).heap.modify 4 fun
      | .cells _ t fz => .cells firstCells t fz
      | o => o }
theorem door_met (os : Os) (args : Array Value) : laidMetH Tryz.prog laidAll ((doorZ os).forCall (fun _ _ => 0) ⟨#[], args, []⟩).memory :=
  laidMetH_of_parts3 (fuel := 8) (laidMet_of_run' 8 (by kernel_rfl) (by kernel_rfl)) (by kernel_rfl) (by kernel_rfl)
theorem own : ownKnob Tryz.prog.godebug = none := by kernel_rfl
end
end Go.Proofs.YtndojpcjhkncgaaGreatDoor.Q
end
