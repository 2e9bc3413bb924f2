/- Part 3 of a proof: the texts QFref36pieces, QFref36numbers, QFref36digits, SParse, HRng, HLn2, HClosed, HRd1, HRead, SChg, SFile, SWrite, HRd2, put together by a program of this repo. -/
import Derived.Shelf.Strings.SlTrimAscii
import Derived.Deep.AppendLies
import Derived.Deep.RegionWith
import Derived.Test.YtndojpcjhkncgaaGreatDoorMReads1
import Derived.Test.YtndojpcjhkncgaaGreatDoorMReads2

section
namespace Go.Proofs.YtndojpcjhkncgaaGreatDoor.Q
open Go.RowKit Go.Proofs.YtndojpcjhkncgaaGreatDoorW.PrintWords Go.Proofs.YtndojpcjhkncgaaGreatDoorW.PrintLast Go.Proofs.YtndojpcjhkncgaaGreatDoorW.PrintMore
attribute [local go_sem] max2_int min2_int max_two min_two max_three min_three max_four min_four   -- for this text's walks alone
set_option linter.unusedVariables false
set_option linter.unusedSimpArgs false
def annuitantref36_pieces.l0 : Nat → ByteArray → Int → List ByteArray → Int → Int → Option (List ByteArray)
 | 0, _, _, _, _, _ => none
 | k + 1, x0, x1, x5, x6, x7 => if x7 < (x0.size : Int) then (if 0 ≤ x7 then (if (bt x0 x7) = x1 then (if 0 ≤ x6 then (if x6 ≤ x7 then (if x7 ≤ (x0.size : Int) then (if x5.length < 8796093022208 then (annuitantref36_pieces.l0 k x0 x1 (x5 ++ [x0.extract (x6 : Int).toNat (x7 : Int).toNat]) (wrap64 (x7 + 1)) (wrap64 (x7 + 1))) else (none)) else (none)) else (none)) else (none)) else (annuitantref36_pieces.l0 k x0 x1 x5 x6 (wrap64 (x7 + 1)))) else (none)) else (if 0 ≤ x6 then (if x6 ≤ (x0.size : Int) then (if x5.length < 8796093022208 then (some (x5 ++ [x0.extract (x6 : Int).toNat x0.size])) else (none)) else (none)) else (none))
def annuitantref36_pieces.f (k : Nat) (a0 : ByteArray) (a1 : Int) : Option (List ByteArray) := annuitantref36_pieces.l0 k a0 a1 ([] : List ByteArray) 0 0
set_option maxHeartbeats 8000000 in
set_option maxRecDepth 100000 in
theorem annuitantref36_pieces.calls (k : Nat) (a0 : ByteArray) (a1 : Int) (r : List ByteArray) (w : World) (h : annuitantref36_pieces.f k a0 a1 = some r) :
  Calls Tryz.prog 70 #[.string a0, .int .u8 a1] w fun e w' => ∃ v0_ : Value, e = .returned (v0_) ∧ Kd.R Kd.string 9 w' w.heap.size (fun _ => True) v0_ r ∧ Below w.heap.size w w' := by
 have HB := Aside0.mk (Below.refl w.heap.size w); have H : (annuitantref36_pieces.l0 k a0 a1 ([] : List ByteArray) 0 0) = some r := h; clear h; have H' := Aside0.mk H; clear H
 go_enter Tryz.func70, Tryz.ntmps70
 go_wp2
 go_loopg [5, 6, 7] k (fun kq v5 v6 v7 w' => ∃ (x5_1 : List ByteArray) (x6_1 : Int) (x7_1 : Int), v6 = .int .i64 x6_1 ∧ v7 = .int .i64 x7_1 ∧ Aside0 (annuitantref36_pieces.l0 kq a0 a1 x5_1 x6_1 x7_1 = some r) ∧ Aside0 (kq ≤ k) ∧ Aside0 (Kd.R Kd.string 9 w' w.heap.size (fun _ => True) v5 x5_1) ∧ Aside0 (Below w.heap.size w w'))
 case atStart => exact ⟨(([] : List ByteArray)), (0), (0), (by first | rfl | (simp; done) | (simp [*]; done)), (by first | rfl | (simp; done) | (simp [*]; done)), H', ⟨Nat.le_refl _⟩, ⟨by first | exact Kd.R_nil _ _ _ _ _ | exact Kd.N_nil _ _ _ _ _ | exact Kd.V_nil _ _ _ _ _ | exact Kd.Q_nil _ _ _ _ _ | exact Kd.S_nil _ _ _ _ _⟩, ⟨zB⟩⟩
 case round =>
  clear H'
  try clear p2
  obtain ⟨x5_1, x6_1, x7_1, rfl, rfl, HA, HK1, HO_5, HB⟩ := hrel
  cases gk with
  | zero => exact absurd HA.out (by simp [annuitantref36_pieces.l0])
  | succ k1 =>
   have H := HA.out; clear HA
   simp only [annuitantref36_pieces.l0] at H
   by_cases c3 : x7_1 < (a0.size : Int)
   ·
    rw [if_pos c3] at H
    have c3b0 : decide (x7_1 < (a0.size : Int)) = true := decide_eq_true c3; clear c3
    by_cases c4 : 0 ≤ x7_1
    ·
     rw [if_pos c4] at H
     have c4b0 : decide (0 ≤ x7_1) = true := decide_eq_true c4; clear c4
     by_cases c6 : (bt a0 x7_1) = a1
     ·
      rw [if_pos c6] at H
      have c6b0 : ((bt a0 x7_1) == a1) = true := beq_iff_eq.mpr c6; have c6b1 : ((bt a0 x7_1) != a1) = false := bne_eq_false_iff_eq.mpr c6; clear c6
      by_cases c7 : 0 ≤ x6_1
      ·
       rw [if_pos c7] at H
       have c7b0 := eq_true c7; have c7b1 : decide (0 ≤ x6_1) = true := decide_eq_true c7; clear c7
       by_cases c8 : x6_1 ≤ x7_1
       ·
        rw [if_pos c8] at H
        have c8b0 := eq_true c8; have c8b1 : decide (x6_1 ≤ x7_1) = true := decide_eq_true c8; clear c8
        by_cases c9 : x7_1 ≤ (a0.size : Int)
        ·
         rw [if_pos c9] at H
         have c9b0 := eq_true c9; have c9b1 : decide (x7_1 ≤ (a0.size : Int)) = true := decide_eq_true c9; clear c9
         by_cases c10 : x5_1.length < 8796093022208
         ·
          rw [if_pos c10] at H
          have LMc10 := Aside0.mk c10; clear c10
          obtain ⟨y252, hy252⟩ : ∃ y_ : List ByteArray, y_ = (x5_1 ++ [a0.extract (x6_1 : Int).toNat (x7_1 : Int).toNat]) := ⟨_, rfl⟩
          replace H : (annuitantref36_pieces.l0 k1 a0 a1 y252 (wrap64 (x7_1 + 1)) (wrap64 (x7_1 + 1))) = some r := by first | (rw [hy252]; with_reducible exact H) | (have H2_ := (Option.bind_some _ _).symm.trans H; rw [hy252]; with_reducible exact H2_) | (have H2_ := (Option.bind_some _ _).symm.trans H; with_reducible exact H2_) | with_reducible exact H | (rw [hy252]; exact H) | exact H
          have Ny252 := Aside0.mk hy252; clear hy252; have H' := Aside0.mk H; clear H; have p5 : 0 ≤ (x7_1 : Int) := zD; have q5 : x7_1 < (a0.size : Int) := zD; have hx5 := bt_at a0 x7_1; replace p5 := eq_true p5; replace q5 := eq_true q5
          go_wp2_with (first | ((with_reducible refine gate_builtin (b := .append) (xs := #[.tmp 19, .tmp 24]) rfl ?_); at_builtin; refine Kd.R_append Kd.string (w0 := w) w.heap.size rfl (.tmp 19) (.tmp 24) 111 9 (.string ⟨#[]⟩) 16 rfl Tryz.underlying111 info9 rfl (by decide) (by omega) u5 x5_1 (a0.extract (x6_1 : Int).toNat (x7_1 : Int).toNat) [.string (a0.extract (x6_1 : Int).toNat (x7_1 : Int).toNat)] (fun _ => True) (fun _ => False) rfl rfl ?aP (fun _ hk => hk.elim) ?aF ?aO ?aB ?aS ?aL ?_; (case aP => exact rfl); (case aB => exact zB); (case aF => exact (fun _ _ => trivial)); (case aO => exact (zR HO_5)); (case aS => exact (below_size zB)); (case aL => have := LMc10.out; omega); intro v253 w11 ho hb hg hat; rw [← Ny252.out] at ho; replace HB := Aside0.mk (hb); have HO254 := Aside0.mk (ho); clear HO_5; clear ho hb hg hat))
          go_roundg k1
          case measure => have := HK1.out; omega
          case rel => exact ⟨(y252), (wrap64 (x7_1 + 1)), (wrap64 (x7_1 + 1)), (by first | rfl | (simp; done) | (simp [*]; done)), (by first | rfl | (simp; done) | (simp [*]; done)), H', ⟨by have := HK1.out; omega⟩, ⟨zR HO254⟩, ⟨zB⟩⟩
         ·
          rw [if_neg c10] at H
          exact absurd H (by simp)
        ·
         rw [if_neg c9] at H
         exact absurd H (by simp)
       ·
        rw [if_neg c8] at H
        exact absurd H (by simp)
      ·
       rw [if_neg c7] at H
       exact absurd H (by simp)
     ·
      rw [if_neg c6] at H
      have c6b0 : ((bt a0 x7_1) == a1) = false := beq_eq_false_iff_ne.mpr c6; have c6b1 : ((bt a0 x7_1) != a1) = true := bne_iff_ne.mpr c6; have H' := Aside0.mk H; clear H; have p5 : 0 ≤ (x7_1 : Int) := zD; have q5 : x7_1 < (a0.size : Int) := zD; have hx5 := bt_at a0 x7_1; replace p5 := eq_true p5; replace q5 := eq_true q5
      go_wp2
      go_roundg k1
      case measure => have := HK1.out; omega
      case rel => exact ⟨(x5_1), (x6_1), (wrap64 (x7_1 + 1)), (by first | rfl | (simp; done) | (simp [*]; done)), (by first | rfl | (simp; done) | (simp [*]; done)), H', ⟨by have := HK1.out; omega⟩, ⟨zR HO_5⟩, ⟨zB⟩⟩
    ·
     rw [if_neg c4] at H
     exact absurd H (by simp)
   ·
    rw [if_neg c3] at H
    have c3b0 : decide (x7_1 < (a0.size : Int)) = false := decide_eq_false c3; clear c3
    by_cases c12 : 0 ≤ x6_1
    ·
     rw [if_pos c12] at H
     have c12b0 := eq_true c12; have c12b1 : decide (0 ≤ x6_1) = true := decide_eq_true c12; clear c12
     by_cases c13 : x6_1 ≤ (a0.size : Int)
     ·
      rw [if_pos c13] at H
      have c13b0 := eq_true c13; have c13b1 : decide (x6_1 ≤ (a0.size : Int)) = true := decide_eq_true c13; clear c13
      by_cases c14 : x5_1.length < 8796093022208
      ·
       rw [if_pos c14] at H
       have LMc14 := Aside0.mk c14; clear c14
       obtain ⟨y255, hy255⟩ : ∃ y_ : List ByteArray, y_ = (x5_1 ++ [a0.extract (x6_1 : Int).toNat a0.size]) := ⟨_, rfl⟩
       replace H : (some y255) = some r := by first | (rw [hy255]; with_reducible exact H) | (have H2_ := (Option.bind_some _ _).symm.trans H; rw [hy255]; with_reducible exact H2_) | (have H2_ := (Option.bind_some _ _).symm.trans H; with_reducible exact H2_) | with_reducible exact H | (rw [hy255]; exact H) | exact H
       have Ny255 := Aside0.mk hy255; clear hy255; obtain rfl := Option.some.inj H
       go_wp2_with (first | ((with_reducible refine gate_builtin (b := .append) (xs := #[.tmp 28, .tmp 32]) rfl ?_); at_builtin; refine Kd.R_append Kd.string (w0 := w) w.heap.size rfl (.tmp 28) (.tmp 32) 111 9 (.string ⟨#[]⟩) 16 rfl Tryz.underlying111 info9 rfl (by decide) (by omega) u5 x5_1 (a0.extract (x6_1 : Int).toNat a0.size) [.string (a0.extract (x6_1 : Int).toNat a0.size)] (fun _ => True) (fun _ => False) rfl rfl ?aP (fun _ hk => hk.elim) ?aF ?aO ?aB ?aS ?aL ?_; (case aP => exact rfl); (case aB => exact zB); (case aF => exact (fun _ _ => trivial)); (case aO => exact (zR HO_5)); (case aS => exact (below_size zB)); (case aL => have := LMc14.out; omega); intro v256 w15 ho hb hg hat; rw [← Ny255.out] at ho; replace HB := Aside0.mk (hb); have HO257 := Aside0.mk (ho); clear HO_5; clear ho hb hg hat))
       go_ret
       exact ⟨_, zE, zR HO257, zB⟩
      ·
       rw [if_neg c14] at H
       exact absurd H (by simp)
     ·
      rw [if_neg c13] at H
      exact absurd H (by simp)
    ·
     rw [if_neg c12] at H
     exact absurd H (by simp)
end Go.Proofs.YtndojpcjhkncgaaGreatDoor.Q
end

section
namespace Go.Proofs.YtndojpcjhkncgaaGreatDoor.Q
open Go.RowKit Go.Proofs.YtndojpcjhkncgaaGreatDoorW.PrintWords Go.Proofs.YtndojpcjhkncgaaGreatDoorW.PrintLast Go.Proofs.YtndojpcjhkncgaaGreatDoorW.PrintMore
attribute [local go_sem] max2_int min2_int max_two min_two max_three min_three max_four min_four   -- for this text's walks alone
set_option linter.unusedVariables false
set_option linter.unusedSimpArgs false
mutual
def annuitantref36_numbers.j0 : Nat → List ByteArray → Bool → Option (List Int × Bool)
 | 0, _, _ => none
 | k + 1, x8, x26 => if x26 = true then (some (([] : List Int), false)) else (annuitantref36_numbers.l0 k x8 ([] : List Int) 1)
def annuitantref36_numbers.l0 : Nat → List ByteArray → List Int → Int → Option (List Int × Bool)
 | 0, _, _, _ => none
 | k + 1, x8, x9, x10 => if x10 < (x8.length : Int) then (annuitantref36_numbers.l1 k x8 x9 x10 0 0) else (some (x9, true))
def annuitantref36_numbers.l1 : Nat → List ByteArray → List Int → Int → Int → Int → Option (List Int × Bool)
 | 0, _, _, _, _, _ => none
 | k + 1, x8, x9, x10, x11, x12 => if 0 ≤ x10 then (if x10 < (x8.length : Int) then (if x12 < ((rdOf ByteArray.empty x8 x10).size : Int) then (if x12 > 13 then (annuitantref36_numbers.j3 k x8 x9 x10 x11 x12 true) else (if 0 ≤ x12 then (if (bt (rdOf ByteArray.empty x8 x10) x12) = 45 then (annuitantref36_numbers.j3 k x8 x9 x10 x11 x12 false) else (if (bt (rdOf ByteArray.empty x8 x10) x12) < 48 then (annuitantref36_numbers.j3 k x8 x9 x10 x11 x12 true) else (annuitantref36_numbers.j3 k x8 x9 x10 x11 x12 (decide ((bt (rdOf ByteArray.empty x8 x10) x12) > 57))))) else (none))) else (if ((rdOf ByteArray.empty x8 x10).size : Int) > 0 then (if 0 < ((rdOf ByteArray.empty x8 x10).size : Int) then (annuitantref36_numbers.j4 k x8 x9 x10 x11 ((bt (rdOf ByteArray.empty x8 x10) 0) == 45)) else (none)) else (annuitantref36_numbers.j4 k x8 x9 x10 x11 false))) else (none)) else (none)
def annuitantref36_numbers.j3 : Nat → List ByteArray → List Int → Int → Int → Int → Bool → Option (List Int × Bool)
 | 0, _, _, _, _, _, _ => none
 | k + 1, x8, x9, x10, x11, x12, x70 => if x70 = true then (some (([] : List Int), false)) else (if 0 ≤ x10 then (if x10 < (x8.length : Int) then (if 0 ≤ x12 then (if x12 < ((rdOf ByteArray.empty x8 x10).size : Int) then (if (bt (rdOf ByteArray.empty x8 x10) x12) = 45 then (annuitantref36_numbers.l1 k x8 x9 x10 x11 (wrap64 (x12 + 1))) else (annuitantref36_numbers.l1 k x8 x9 x10 (wrap64 ((wrap64 (10 * x11)) + (((bt (rdOf ByteArray.empty x8 x10) x12) - 48) % 256))) (wrap64 (x12 + 1)))) else (none)) else (none)) else (none)) else (none))
def annuitantref36_numbers.j4 : Nat → List ByteArray → List Int → Int → Int → Bool → Option (List Int × Bool)
 | 0, _, _, _, _, _ => none
 | k + 1, x8, x9, x10, x11, x102 => if x102 = true then (if (wrap64 (-x11)) < (-1099511627776) then (some (([] : List Int), false)) else (if (wrap64 (-x11)) > 1099511627776 then (some (([] : List Int), false)) else ((annuitantref36_decimal.f k (wrap64 (-x11))).bind fun t270 => (if 0 ≤ x10 then (if x10 < (x8.length : Int) then (if t270.toList = (rdOf ByteArray.empty x8 x10).toList then (if x9.length < 17592186044416 then (annuitantref36_numbers.l0 k x8 (x9 ++ [wrap64 (-x11)]) (wrap64 (x10 + 1))) else (none)) else (some (([] : List Int), false))) else (none)) else (none))))) else (if x11 < (-1099511627776) then (some (([] : List Int), false)) else (if x11 > 1099511627776 then (some (([] : List Int), false)) else ((annuitantref36_decimal.f k x11).bind fun t275 => (if 0 ≤ x10 then (if x10 < (x8.length : Int) then (if t275.toList = (rdOf ByteArray.empty x8 x10).toList then (if x9.length < 17592186044416 then (annuitantref36_numbers.l0 k x8 (x9 ++ [x11]) (wrap64 (x10 + 1))) else (none)) else (some (([] : List Int), false))) else (none)) else (none)))))
end
def annuitantref36_numbers.f (k : Nat) (a0 : ByteArray) (a1 : ByteArray) (a2 : Int) : Option (List Int × Bool) := (annuitantref36_pieces.f k a0 32).bind fun t258 => (if 0 < (t258.length : Int) then (if (rdOf ByteArray.empty t258 0).toList = a1.toList then (annuitantref36_numbers.j0 k t258 ((t258.length : Int) != (wrap64 (a2 + 1)))) else (annuitantref36_numbers.j0 k t258 true)) else (none))
def annuitantref36_numbers.T18 : Bool × List (List Nat × List Nat) := (true, [([], []), ([0], [0]), ([1], [1]), ([2], [2]), ([3, 2], [2, 3]), ([2, 4], [2, 4]), ([5, 2], [5]), ([6], [6]), ([7, 6, 6], [6, 7]), ([6], [6]), ([6], [6]), ([9, 10, 6], [6, 9, 10]), ([11, 6], [6, 11]), ([8, 12, 6], [6, 8, 12]), ([6, 13], [6, 13])])
def annuitantref36_numbers.B18 : List Nat := [0, 1, 3, 7, 15, 31, 63, 127, 255, 127, 127, 1663, 3711, 8191, 16383]
theorem annuitantref36_numbers.tab18 : rtab .any (opsOf Tryz.f71 18) = annuitantref36_numbers.T18 := by kernel_rfl
theorem annuitantref36_numbers.bits18 : waitsOk annuitantref36_numbers.T18.2 annuitantref36_numbers.B18 = true := by kernel_rfl
abbrev zbuy := true
abbrev zbun := false
abbrev zbuz0 : Array Bool := #[zbun,zbun,zbun,zbun,zbun,zbun,zbun,zbun,zbun,zbun,zbun,zbun,zbun,zbun,zbun]
abbrev zbuz1 : Array Bool := #[zbuy,zbun,zbun,zbun,zbun,zbun,zbun,zbun,zbun,zbun,zbun,zbun,zbun,zbun,zbun]
abbrev zbuz2 : Array Bool := #[zbuy,zbuy,zbun,zbun,zbun,zbun,zbun,zbun,zbun,zbun,zbun,zbun,zbun,zbun,zbun]
abbrev zbuz3 : Array Bool := #[zbuy,zbuy,zbuy,zbun,zbun,zbun,zbun,zbun,zbun,zbun,zbun,zbun,zbun,zbun,zbun]
abbrev zbuz4 : Array Bool := #[zbuy,zbuy,zbuy,zbuy,zbun,zbun,zbun,zbun,zbun,zbun,zbun,zbun,zbun,zbun,zbun]
abbrev zbuz5 : Array Bool := #[zbuy,zbuy,zbuy,zbuy,zbuy,zbun,zbun,zbun,zbun,zbun,zbun,zbun,zbun,zbun,zbun]
abbrev zbuz6 : Array Bool := #[zbuy,zbuy,zbuy,zbuy,zbuy,zbuy,zbun,zbun,zbun,zbun,zbun,zbun,zbun,zbun,zbun]
abbrev zbuz7 : Array Bool := #[zbuy,zbuy,zbuy,zbuy,zbuy,zbuy,zbuy,zbun,zbun,zbun,zbun,zbun,zbun,zbun,zbun]
abbrev zbuz8 : Array Bool := #[zbuy,zbuy,zbuy,zbuy,zbuy,zbuy,zbuy,zbuy,zbun,zbun,zbun,zbun,zbun,zbun,zbun]
abbrev zbuz9 : Array Bool := #[zbuy,zbuy,zbuy,zbuy,zbuy,zbuy,zbuy,zbuy,zbuy,zbun,zbun,zbun,zbun,zbun,zbun]
abbrev zbuz10 : Array Bool := #[zbuy,zbuy,zbuy,zbuy,zbuy,zbuy,zbuy,zbuy,zbuy,zbuy,zbun,zbun,zbun,zbun,zbun]
abbrev zbuz11 : Array Bool := #[zbuy,zbuy,zbuy,zbuy,zbuy,zbuy,zbuy,zbuy,zbuy,zbuy,zbuy,zbun,zbun,zbun,zbun]
abbrev zbuz12 : Array Bool := #[zbuy,zbuy,zbuy,zbuy,zbuy,zbuy,zbuy,zbuy,zbuy,zbuy,zbuy,zbuy,zbun,zbun,zbun]
abbrev zbuz13 : Array Bool := #[zbuy,zbuy,zbuy,zbuy,zbuy,zbuy,zbuy,zbuy,zbuy,zbuy,zbuy,zbuy,zbuy,zbun,zbun]
abbrev zbuz14 : Array Bool := #[zbuy,zbuy,zbuy,zbuy,zbuy,zbuy,zbuy,zbuy,zbuy,zbuy,zbuy,zbuy,zbuy,zbuy,zbun]
abbrev zbuz15 : Array Bool := #[zbuy,zbuy,zbuy,zbuy,zbuy,zbuy,zbuy,zbuy,zbuy,zbuy,zbuy,zbuy,zbuy,zbuy,zbuy]
abbrev zbuz16 : Array Bool := #[zbuy,zbuy,zbuy,zbuy,zbuy,zbuy,zbuy,zbuy,zbun,zbuy,zbun,zbun,zbun,zbun,zbun]
abbrev zbuz17 : Array Bool := #[zbuy,zbuy,zbuy,zbuy,zbuy,zbuy,zbuy,zbuy,zbun,zbuy,zbuy,zbun,zbun,zbun,zbun]
abbrev zbuz18 : Array Bool := #[zbuy,zbuy,zbuy,zbuy,zbuy,zbuy,zbuy,zbuy,zbun,zbuy,zbuy,zbuy,zbun,zbun,zbun]
abbrev zbuz19 : Array Bool := #[zbuy,zbuy,zbuy,zbuy,zbuy,zbuy,zbuy,zbuy,zbun,zbuy,zbuy,zbuy,zbuy,zbun,zbun]
theorem zbuq {α β γ : Type _} {A : α → β → γ → Prop} : ∀ a b c, A a b c → A a b c := fun _ _ _ h => h
theorem zbup {P : Program} {md : Region.Mode} {ops : Array Oper} {Q : Exit → Act → World → Prop} {S : World → Prop} {ds : List Nat} {oi : Oper} {fuel : Nat} {l : Array Bool} {a : Act} {w : World} {v : Value} {a' : Act} (i : Nat) (N : Option Tmp) (l' : Array Bool) (hi : ops[i]? = some oi) (hN : oi.dst = N) (hc : anyB md ops l l' i = true)
    (hQ : ∀ c a w, Q (.panic c) (a.put oi.dst v) w → Q (.panic c) a w) (hy : Yields P ops oi v a) (ha : a.put N v = a')
    (h : wpAnyLast P md ops Q S ds fuel l' a' w) : wpAnyLast P md ops Q S ds (fuel + 1) l a w := pure_ (i := i) (N := N) (v := v) (a' := a') l' hi hN hc hQ hy ha h
theorem zbu1 {α : Type _} {l : List α} {i : Nat} {a : α} : l.toArray.setIfInBounds i a = (l.set i a).toArray := by simp
theorem zbu2 {α : Type _} {x : α} {xs : List α} {a : α} : (x :: xs).set 0 a = a :: xs := rfl
theorem zbu3 {α : Type _} {x : α} {xs : List α} {n : Nat} {a : α} : (x :: xs).set (n + 1) a = x :: xs.set n a := rfl
set_option maxHeartbeats 8000000 in
set_option maxRecDepth 100000 in
theorem annuitantref36_numbers.calls (k : Nat) (a0 : ByteArray) (a1 : ByteArray) (a2 : Int) (r1 : List Int) (r2 : Bool) (w : World) (h : annuitantref36_numbers.f k a0 a1 a2 = some (r1, r2)) :
  Calls Tryz.prog 71 #[.string a0, .string a1, .int .i64 a2] w fun e w' => ∃ v0_ : Value, e = .returned (.tuple #[v0_, .bool r2]) ∧ Kd.R (Kd.int .i64) 3 w' w.heap.size (fun _ => True) v0_ r1 ∧ Below w.heap.size w w' := by
 have HB := Aside0.mk (Below.refl w.heap.size w); have H : ((annuitantref36_pieces.f k a0 32).bind fun t258 => (if 0 < (t258.length : Int) then (if (rdOf ByteArray.empty t258 0).toList = a1.toList then (annuitantref36_numbers.j0 k t258 ((t258.length : Int) != (wrap64 (a2 + 1)))) else (annuitantref36_numbers.j0 k t258 true)) else (none))) = some (r1, r2) := h; clear h; replace H := Option.bind_eq_some_iff.mp H; obtain ⟨t258, A40, H⟩ := H; replace H : (if 0 < (t258.length : Int) then (if (rdOf ByteArray.empty t258 0).toList = a1.toList then (annuitantref36_numbers.j0 k t258 ((t258.length : Int) != (wrap64 (a2 + 1)))) else (annuitantref36_numbers.j0 k t258 true)) else (none)) = some (r1, r2) := H; have A4 := Aside0.mk A40; clear A40; have HC5 := Aside0.mk H; clear H
 go_enter Tryz.func71, Tryz.ntmps71
 go_upto_region 2 with (first | ((with_reducible refine gate_callee (f := 70) rfl ?_); refine goesL_ (some 14) rfl rfl Tryz.func70 (by kernel_rfl) rfl #[.string a0, .int .u8 32] rfl (by (try simp only [List.map_toArray, List.map_cons, List.map_nil]); try rfl) ?_; (with_reducible refine (annuitantref36_pieces.calls k a0 32 t258 _ A4.out).mono ?_); rintro e w6 ⟨v259, rfl, ho0, hb⟩; refine ⟨_, rfl, ?_⟩; have HO260 := Aside0.mk (Kd.R_lower ho0 (below_size zB)); replace HB := zBs hb; (try clear hb); (try clear hb2); (try clear hk); (try clear hi); (try clear ho0)))
 (try simp only [Act.put, List.setIfInBounds_toArray, List.set_cons_zero, List.set_cons_succ])
 go_cut [26] (fun v26 wc => ∃ (kq : Nat) (x26_4 : Bool), v26 = .bool x26_4 ∧ Aside0 (annuitantref36_numbers.j0 kq t258 x26_4 = some (r1, r2)) ∧ Aside0 (kq ≤ k) ∧ Aside0 (Kd.R Kd.string 9 wc w.heap.size (fun _ => True) v259 t258) ∧ Aside0 (Below w.heap.size w wc))
 case first =>
  have H := HC5.out; clear HC5
  by_cases c7 : 0 < (t258.length : Int)
  ·
   rw [if_pos c7] at H
   have c7b0 : decide (0 < (t258.length : Int)) = true := decide_eq_true c7; have c7b1 : decide (0 < t258.length) = true := decide_eq_true (by omega); clear c7
   (first | rw [c7b0] | (simp only [i64_w, i32_w]; rw [c7b0]) | skip)
   by_cases c8 : (rdOf ByteArray.empty t258 0).toList = a1.toList
   ·
    rw [if_pos c8] at H
    have c8b0 : ((rdOf ByteArray.empty t258 0).toList == a1.toList) = true := beq_iff_eq.mpr c8; have c8b1 : ((rdOf ByteArray.empty t258 0).toList != a1.toList) = false := bne_eq_false_iff_eq.mpr c8; clear c8; have H' := Aside0.mk H; clear H; obtain ⟨Ao9, co9, eo9⟩ := Kd.R_slice HO260.out; subst eo9; have p261 : 0 ≤ (0 : Int) := (by omega); have q261 : 0 < (t258.length : Int) := zD; obtain ⟨ad261, e261, hx261_0⟩ := Kd.at_string (Kd.R_reads' HO260.out).2.2 0 p261 q261
    cases e261
    have qi261 : (0 < t258.length) = True := eq_true (by omega)
    (try rw [show ((0 : Int)).toNat = 0 from rfl] at hx261_0)
    (try rw [Addr.add_zero'] at hx261_0)
    replace p261 := eq_true p261; replace q261 := eq_true q261
    go_wp2
    go_meet
    case rel => exact ⟨_, (((t258.length : Int) != (wrap64 (a2 + 1)))), (by first | rfl | (simp; done) | (simp [*]; done)), H', ⟨by first | omega | exact Nat.le_refl _⟩, ⟨zR HO260⟩, ⟨zB⟩⟩
   ·
    rw [if_neg c8] at H
    have c8b0 : ((rdOf ByteArray.empty t258 0).toList == a1.toList) = false := beq_eq_false_iff_ne.mpr c8; have c8b1 : ((rdOf ByteArray.empty t258 0).toList != a1.toList) = true := bne_iff_ne.mpr c8; have H' := Aside0.mk H; clear H; obtain ⟨Ao10, co10, eo10⟩ := Kd.R_slice HO260.out; subst eo10; have p261 : 0 ≤ (0 : Int) := (by omega); have q261 : 0 < (t258.length : Int) := zD; obtain ⟨ad261, e261, hx261_0⟩ := Kd.at_string (Kd.R_reads' HO260.out).2.2 0 p261 q261
    cases e261
    have qi261 : (0 < t258.length) = True := eq_true (by omega)
    (try rw [show ((0 : Int)).toNat = 0 from rfl] at hx261_0)
    (try rw [Addr.add_zero'] at hx261_0)
    replace p261 := eq_true p261; replace q261 := eq_true q261
    go_wp2
    go_meet
    case rel => exact ⟨_, (true), (by first | rfl | (simp; done) | (simp [*]; done)), H', ⟨by first | omega | exact Nat.le_refl _⟩, ⟨zR HO260⟩, ⟨zB⟩⟩
  ·
   rw [if_neg c7] at H
   exact absurd H (by simp)
 case rest =>
  clear HC5
  try clear p2
  try clear q2
  try clear hx2
  try clear qi2
  try clear p6
  try clear c7
  try clear c7b0
  try clear c7b1
  try clear c8
  try clear c8b0
  try clear c8b1
  try clear hx261_0
  try clear p261
  try clear q261
  obtain ⟨kq, x26_4, rfl, HA, HJ4, HO_8, HB⟩ := hcut
  cases kq with
  | zero => exact absurd HA.out (by simp [annuitantref36_numbers.j0])
  | succ kj4 =>
   have H := HA.out; clear HA
   simp only [annuitantref36_numbers.j0] at H
   by_cases c11 : x26_4 = true
   ·
    subst c11
    have H1 : (some (([] : List Int), false)) = some (r1, r2) := by rw [if_pos rfl] at H; exact H
    clear H; have H := H1; clear H1
    simp only [Option.some.injEq, Prod.mk.injEq] at H
    obtain ⟨rfl, rfl⟩ := H
    go_wp2
    go_ret2
    exact ⟨_, zE, by first | exact Kd.R_nil _ _ _ _ _ | exact Kd.N_nil _ _ _ _ _ | exact Kd.V_nil _ _ _ _ _ | exact Kd.Q_nil _ _ _ _ _ | exact Kd.S_nil _ _ _ _ _, zB⟩
   ·
    replace c11 := Bool.eq_false_iff.mpr c11; subst c11
    have H1 : (annuitantref36_numbers.l0 kj4 t258 ([] : List Int) 1) = some (r1, r2) := by rw [if_neg (show ¬ (false = true) by decide)] at H; exact H
    clear H; have H := H1; clear H1; have H' := Aside0.mk H; clear H
    go_wp2
    go_loopg [9, 10] kj4 (fun kq v9 v10 w' => ∃ (x9_2 : List Int) (x10_2 : Int), v10 = .int .i64 x10_2 ∧ Aside0 (annuitantref36_numbers.l0 kq t258 x9_2 x10_2 = some (r1, r2)) ∧ Aside0 (kq ≤ kj4) ∧ Aside0 (Kd.R Kd.string 9 w' w.heap.size (fun _ => True) v259 t258) ∧ Aside0 (Kd.R (Kd.int .i64) 3 w' w.heap.size (fun _ => True) v9 x9_2) ∧ Aside0 (Below w.heap.size w w'))
    case atStart => exact ⟨(([] : List Int)), (1), (by first | rfl | (simp; done) | (simp [*]; done)), H', ⟨Nat.le_refl _⟩, ⟨zR HO_8⟩, ⟨by first | exact Kd.R_nil _ _ _ _ _ | exact Kd.N_nil _ _ _ _ _ | exact Kd.V_nil _ _ _ _ _ | exact Kd.Q_nil _ _ _ _ _ | exact Kd.S_nil _ _ _ _ _⟩, ⟨zB⟩⟩
    case round =>
     clear H'
     try clear c1
     try clear p2
     try clear q2
     try clear hx2
     try clear qi2
     try clear p6
     try clear c7
     try clear c7b0
     try clear c7b1
     try clear c8
     try clear c8b0
     try clear c8b1
     try clear c11
     try clear hx261_0
     try clear p2
     try clear p261
     try clear p6
     try clear q2
     try clear q261
     obtain ⟨x9_2, x10_2, rfl, HA, HK2, HO_8, HO_9, HB⟩ := hrel
     cases gk with
     | zero => exact absurd HA.out (by simp [annuitantref36_numbers.l0])
     | succ k2 =>
      have H := HA.out; clear HA
      simp only [annuitantref36_numbers.l0] at H
      by_cases c12 : x10_2 < (t258.length : Int)
      ·
       rw [if_pos c12] at H
       have c12b0 : decide (x10_2 < (t258.length : Int)) = true := decide_eq_true c12; clear c12; have H' := Aside0.mk H; clear H; obtain ⟨Ao13, co13, eo13⟩ := Kd.R_slice HO_8.out; subst eo13
       go_wp2
       go_loopg [11, 12] k2 (fun kq v11 v12 w' => ∃ (x11_3 : Int) (x12_3 : Int), v11 = .int .i64 x11_3 ∧ v12 = .int .i64 x12_3 ∧ Aside0 (annuitantref36_numbers.l1 kq t258 x9_2 x10_2 x11_3 x12_3 = some (r1, r2)) ∧ Aside0 (kq ≤ k2) ∧ Aside0 (Kd.R Kd.string 9 w' w.heap.size (fun _ => True) (.slice Ao13 t258.length co13) t258) ∧ Aside0 (Kd.R (Kd.int .i64) 3 w' w.heap.size (fun _ => True) u9 x9_2) ∧ Aside0 (Below w.heap.size w w'))
       case atStart => exact ⟨(0), (0), (by first | rfl | (simp; done) | (simp [*]; done)), (by first | rfl | (simp; done) | (simp [*]; done)), H', ⟨Nat.le_refl _⟩, ⟨zR HO_8⟩, ⟨zR HO_9⟩, ⟨zB⟩⟩
       case round =>
        clear H'
        try clear c1
        try clear p2
        try clear q2
        try clear hx2
        try clear qi2
        try clear p6
        try clear c7
        try clear c7b0
        try clear c7b1
        try clear c8
        try clear c8b0
        try clear c8b1
        try clear c11
        try clear c12
        try clear c12b0
        try clear hx261_0
        try clear p2
        try clear p261
        try clear p6
        try clear q2
        try clear q261
        obtain ⟨x11_3, x12_3, rfl, rfl, HA, HK3, HO_8, HO_9, HB⟩ := hrel
        cases gk with
        | zero => exact absurd HA.out (by simp [annuitantref36_numbers.l1])
        | succ k3 =>
         have H := HA.out; clear HA
         simp only [annuitantref36_numbers.l1] at H
         by_cases c14 : 0 ≤ x10_2
         ·
          rw [if_pos c14] at H
          have c14b0 : decide (0 ≤ x10_2) = true := decide_eq_true c14; clear c14
          by_cases c15 : x10_2 < (t258.length : Int)
          ·
           rw [if_pos c15] at H
           have c15b0 : decide (x10_2 < (t258.length : Int)) = true := decide_eq_true c15; clear c15
           by_cases c16 : x12_3 < ((rdOf ByteArray.empty t258 x10_2).size : Int)
           ·
            rw [if_pos c16] at H
            have c16b0 : decide (x12_3 < ((rdOf ByteArray.empty t258 x10_2).size : Int)) = true := decide_eq_true c16; clear c16; have HC17 := Aside0.mk H; clear H; have p262 : 0 ≤ (x10_2 : Int) := zD; have q262 : x10_2 < (t258.length : Int) := zD; obtain ⟨ad262, e262, hx262_0⟩ := Kd.at_string (Kd.R_reads' HO_8.out).2.2 x10_2 p262 q262
            cases e262
            replace p262 := eq_true p262; replace q262 := eq_true q262
            go_upto_region 12 with (fail)
            go_cut [70] (fun v70 wc => ∃ (kq : Nat) (x70_16 : Bool), v70 = .bool x70_16 ∧ Aside0 (annuitantref36_numbers.j3 kq t258 x9_2 x10_2 x11_3 x12_3 x70_16 = some (r1, r2)) ∧ Aside0 (kq ≤ k3) ∧ Aside0 (Kd.R Kd.string 9 wc w.heap.size (fun _ => True) (.slice (some ad262) t258.length co13) t258) ∧ Aside0 (Kd.R (Kd.int .i64) 3 wc w.heap.size (fun _ => True) u9 x9_2) ∧ Aside0 (Below w.heap.size w wc))
            case first =>
             have H := HC17.out; clear HC17
             by_cases c18 : x12_3 > 13
             ·
              rw [if_pos c18] at H
              have c18b0 : decide (13 < x12_3) = true := decide_eq_true c18; clear c18
              (first | rw [c18b0] | (simp only [i64_w, i32_w]; rw [c18b0]) | skip)
              have H' := Aside0.mk H; clear H
              go_wp2
              go_meet
              case rel => exact ⟨_, (true), (by first | rfl | (simp; done) | (simp [*]; done)), H', ⟨by have := HJ4.out; have := HK2.out; have := HK3.out; first | omega | exact Nat.le_refl _⟩, ⟨zR HO_8⟩, ⟨zR HO_9⟩, ⟨zB⟩⟩
             ·
              rw [if_neg c18] at H
              have c18b0 : decide (13 < x12_3) = false := decide_eq_false c18; clear c18
              (first | rw [c18b0] | (simp only [i64_w, i32_w]; rw [c18b0]) | skip)
              by_cases c19 : 0 ≤ x12_3
              ·
               rw [if_pos c19] at H
               have c19b0 : decide (0 ≤ x12_3) = true := decide_eq_true c19; clear c19
               by_cases c21 : (bt (rdOf ByteArray.empty t258 x10_2) x12_3) = 45
               ·
                rw [if_pos c21] at H
                have c21b0 : ((bt (rdOf ByteArray.empty t258 x10_2) x12_3) == 45) = true := beq_iff_eq.mpr c21; have c21b1 : ((bt (rdOf ByteArray.empty t258 x10_2) x12_3) != 45) = false := bne_eq_false_iff_eq.mpr c21; clear c21; have H' := Aside0.mk H; clear H; have p263 : 0 ≤ (x10_2 : Int) := zD; have q263 : x10_2 < (t258.length : Int) := zD; obtain ⟨ad263, e263, hx263_0⟩ := Kd.at_string (Kd.R_reads' HO_8.out).2.2 x10_2 p263 q263; obtain rfl : ad262 = ad263 := (by injection e263); replace p263 := eq_true p263; replace q263 := eq_true q263; have p20 : 0 ≤ (x12_3 : Int) := zD; have q20 : x12_3 < ((rdOf ByteArray.empty t258 x10_2).size : Int) := zD; have hx20 := bt_at (rdOf ByteArray.empty t258 x10_2) x12_3; replace p20 := eq_true p20; replace q20 := eq_true q20
                go_wp2
                go_meet
                case rel => exact ⟨_, (false), (by first | rfl | (simp; done) | (simp [*]; done)), H', ⟨by have := HJ4.out; have := HK2.out; have := HK3.out; first | omega | exact Nat.le_refl _⟩, ⟨zR HO_8⟩, ⟨zR HO_9⟩, ⟨zB⟩⟩
               ·
                rw [if_neg c21] at H
                have c21b0 : ((bt (rdOf ByteArray.empty t258 x10_2) x12_3) == 45) = false := beq_eq_false_iff_ne.mpr c21; have c21b1 : ((bt (rdOf ByteArray.empty t258 x10_2) x12_3) != 45) = true := bne_iff_ne.mpr c21
                by_cases c23 : (bt (rdOf ByteArray.empty t258 x10_2) x12_3) < 48
                ·
                 rw [if_pos c23] at H
                 have c23b0 : decide ((bt (rdOf ByteArray.empty t258 x10_2) x12_3) < 48) = true := decide_eq_true c23; clear c23; have H' := Aside0.mk H; clear H; have p263 : 0 ≤ (x10_2 : Int) := zD; have q263 : x10_2 < (t258.length : Int) := zD; obtain ⟨ad263, e263, hx263_0⟩ := Kd.at_string (Kd.R_reads' HO_8.out).2.2 x10_2 p263 q263; obtain rfl : ad262 = ad263 := (by injection e263); replace p263 := eq_true p263; replace q263 := eq_true q263; have p20 : 0 ≤ (x12_3 : Int) := zD; have q20 : x12_3 < ((rdOf ByteArray.empty t258 x10_2).size : Int) := zD; have hx20 := bt_at (rdOf ByteArray.empty t258 x10_2) x12_3; replace p20 := eq_true p20; replace q20 := eq_true q20; have p264 : 0 ≤ (x10_2 : Int) := zD; have q264 : x10_2 < (t258.length : Int) := zD; obtain ⟨ad264, e264, hx264_0⟩ := Kd.at_string (Kd.R_reads' HO_8.out).2.2 x10_2 p264 q264; obtain rfl : ad262 = ad264 := (by injection e264); replace p264 := eq_true p264; replace q264 := eq_true q264; have p22 : 0 ≤ (x12_3 : Int) := zD; have q22 : x12_3 < ((rdOf ByteArray.empty t258 x10_2).size : Int) := zD; have hx22 := bt_at (rdOf ByteArray.empty t258 x10_2) x12_3; replace p22 := eq_true p22; replace q22 := eq_true q22
                 go_wp2
                 go_meet
                 case rel => exact ⟨_, (true), (by first | rfl | (simp; done) | (simp [*]; done)), H', ⟨by have := HJ4.out; have := HK2.out; have := HK3.out; first | omega | exact Nat.le_refl _⟩, ⟨zR HO_8⟩, ⟨zR HO_9⟩, ⟨zB⟩⟩
                ·
                 rw [if_neg c23] at H
                 have c23b0 : decide ((bt (rdOf ByteArray.empty t258 x10_2) x12_3) < 48) = false := decide_eq_false c23; clear c23; have H' := Aside0.mk H; clear H; have p263 : 0 ≤ (x10_2 : Int) := zD; have q263 : x10_2 < (t258.length : Int) := zD; obtain ⟨ad263, e263, hx263_0⟩ := Kd.at_string (Kd.R_reads' HO_8.out).2.2 x10_2 p263 q263; obtain rfl : ad262 = ad263 := (by injection e263); replace p263 := eq_true p263; replace q263 := eq_true q263; have p20 : 0 ≤ (x12_3 : Int) := zD; have q20 : x12_3 < ((rdOf ByteArray.empty t258 x10_2).size : Int) := zD; have hx20 := bt_at (rdOf ByteArray.empty t258 x10_2) x12_3; replace p20 := eq_true p20; replace q20 := eq_true q20; have p264 : 0 ≤ (x10_2 : Int) := zD; have q264 : x10_2 < (t258.length : Int) := zD; obtain ⟨ad264, e264, hx264_0⟩ := Kd.at_string (Kd.R_reads' HO_8.out).2.2 x10_2 p264 q264; obtain rfl : ad262 = ad264 := (by injection e264); replace p264 := eq_true p264; replace q264 := eq_true q264; have p22 : 0 ≤ (x12_3 : Int) := zD; have q22 : x12_3 < ((rdOf ByteArray.empty t258 x10_2).size : Int) := zD; have hx22 := bt_at (rdOf ByteArray.empty t258 x10_2) x12_3; replace p22 := eq_true p22; replace q22 := eq_true q22; have p265 : 0 ≤ (x10_2 : Int) := zD; have q265 : x10_2 < (t258.length : Int) := zD; obtain ⟨ad265, e265, hx265_0⟩ := Kd.at_string (Kd.R_reads' HO_8.out).2.2 x10_2 p265 q265; obtain rfl : ad262 = ad265 := (by injection e265); replace p265 := eq_true p265; replace q265 := eq_true q265; have p24 : 0 ≤ (x12_3 : Int) := zD; have q24 : x12_3 < ((rdOf ByteArray.empty t258 x10_2).size : Int) := zD; have hx24 := bt_at (rdOf ByteArray.empty t258 x10_2) x12_3; replace p24 := eq_true p24; replace q24 := eq_true q24
                 go_wp2
                 go_meet
                 case rel => exact ⟨_, (decide ((bt (rdOf ByteArray.empty t258 x10_2) x12_3) > 57)), (by first | rfl | (simp; done) | (simp [*]; done)), H', ⟨by have := HJ4.out; have := HK2.out; have := HK3.out; first | omega | exact Nat.le_refl _⟩, ⟨zR HO_8⟩, ⟨zR HO_9⟩, ⟨zB⟩⟩
              ·
               rw [if_neg c19] at H
               exact absurd H (by simp)
            case rest =>
             clear HC17
             try clear c1
             try clear c2
             try clear p2
             try clear q2
             try clear hx2
             try clear qi2
             try clear p6
             try clear c7
             try clear c7b0
             try clear c7b1
             try clear c8
             try clear c8b0
             try clear c8b1
             try clear c11
             try clear c12
             try clear c12b0
             try clear c14
             try clear c14b0
             try clear c15
             try clear c15b0
             try clear c16
             try clear c16b0
             try clear c18
             try clear c18b0
             try clear c19
             try clear c19b0
             try clear p20
             try clear q20
             try clear hx20
             try clear c21
             try clear c21b0
             try clear c21b1
             try clear p22
             try clear q22
             try clear hx22
             try clear c23
             try clear c23b0
             try clear p24
             try clear q24
             try clear hx24
             try clear hx261_0
             try clear hx262_0
             try clear hx263_0
             try clear hx264_0
             try clear hx265_0
             try clear p2
             try clear p20
             try clear p22
             try clear p24
             try clear p261
             try clear p262
             try clear p263
             try clear p264
             try clear p265
             try clear p6
             try clear q2
             try clear q20
             try clear q22
             try clear q24
             try clear q261
             try clear q262
             try clear q263
             try clear q264
             try clear q265
             obtain ⟨kq, x70_16, rfl, HA, HJ16, HO_8, HO_9, HB⟩ := hcut
             cases kq with
             | zero => exact absurd HA.out (by simp [annuitantref36_numbers.j3])
             | succ kj16 =>
              have H := HA.out; clear HA
              simp only [annuitantref36_numbers.j3] at H
              by_cases c25 : x70_16 = true
              ·
               subst c25
               have H1 : (some (([] : List Int), false)) = some (r1, r2) := by rw [if_pos rfl] at H; exact H
               clear H; have H := H1; clear H1
               simp only [Option.some.injEq, Prod.mk.injEq] at H
               obtain ⟨rfl, rfl⟩ := H
               go_wp2
               go_ret2
               exact ⟨_, zE, by first | exact Kd.R_nil _ _ _ _ _ | exact Kd.N_nil _ _ _ _ _ | exact Kd.V_nil _ _ _ _ _ | exact Kd.Q_nil _ _ _ _ _ | exact Kd.S_nil _ _ _ _ _, zB⟩
              ·
               replace c25 := Bool.eq_false_iff.mpr c25; subst c25
               have H1 : (if 0 ≤ x10_2 then (if x10_2 < (t258.length : Int) then (if 0 ≤ x12_3 then (if x12_3 < ((rdOf ByteArray.empty t258 x10_2).size : Int) then (if (bt (rdOf ByteArray.empty t258 x10_2) x12_3) = 45 then (annuitantref36_numbers.l1 kj16 t258 x9_2 x10_2 x11_3 (wrap64 (x12_3 + 1))) else (annuitantref36_numbers.l1 kj16 t258 x9_2 x10_2 (wrap64 ((wrap64 (10 * x11_3)) + (((bt (rdOf ByteArray.empty t258 x10_2) x12_3) - 48) % 256))) (wrap64 (x12_3 + 1)))) else (none)) else (none)) else (none)) else (none)) = some (r1, r2) := by rw [if_neg (show ¬ (false = true) by decide)] at H; exact H
               clear H; have H := H1; clear H1
               by_cases c26 : 0 ≤ x10_2
               ·
                rw [if_pos c26] at H
                have c26b0 : decide (0 ≤ x10_2) = true := decide_eq_true c26; clear c26
                by_cases c27 : x10_2 < (t258.length : Int)
                ·
                 rw [if_pos c27] at H
                 have c27b0 : decide (x10_2 < (t258.length : Int)) = true := decide_eq_true c27; clear c27
                 by_cases c28 : 0 ≤ x12_3
                 ·
                  rw [if_pos c28] at H
                  have c28b0 : decide (0 ≤ x12_3) = true := decide_eq_true c28; clear c28
                  by_cases c29 : x12_3 < ((rdOf ByteArray.empty t258 x10_2).size : Int)
                  ·
                   rw [if_pos c29] at H
                   have c29b0 : decide (x12_3 < ((rdOf ByteArray.empty t258 x10_2).size : Int)) = true := decide_eq_true c29; clear c29
                   by_cases c31 : (bt (rdOf ByteArray.empty t258 x10_2) x12_3) = 45
                   ·
                    rw [if_pos c31] at H
                    have c31b0 : ((bt (rdOf ByteArray.empty t258 x10_2) x12_3) == 45) = true := beq_iff_eq.mpr c31; have c31b1 : ((bt (rdOf ByteArray.empty t258 x10_2) x12_3) != 45) = false := bne_eq_false_iff_eq.mpr c31; clear c31; have H' := Aside0.mk H; clear H; have p266 : 0 ≤ (x10_2 : Int) := zD; have q266 : x10_2 < (t258.length : Int) := zD; obtain ⟨ad266, e266, hx266_0⟩ := Kd.at_string (Kd.R_reads' HO_8.out).2.2 x10_2 p266 q266; obtain rfl : ad262 = ad266 := (by injection e266); replace p266 := eq_true p266; replace q266 := eq_true q266; have p30 : 0 ≤ (x12_3 : Int) := zD; have q30 : x12_3 < ((rdOf ByteArray.empty t258 x10_2).size : Int) := zD; have hx30 := bt_at (rdOf ByteArray.empty t258 x10_2) x12_3; replace p30 := eq_true p30; replace q30 := eq_true q30
                    go_wp2
                    go_roundg kj16
                    case measure => have := HJ4.out; have := HK2.out; have := HK3.out; have := HJ16.out; omega
                    case rel => exact ⟨(x11_3), (wrap64 (x12_3 + 1)), (by first | rfl | (simp; done) | (simp [*]; done)), (by first | rfl | (simp; done) | (simp [*]; done)), H', ⟨by have := HJ4.out; have := HK2.out; have := HK3.out; have := HJ16.out; omega⟩, ⟨zR HO_8⟩, ⟨zR HO_9⟩, ⟨zB⟩⟩
                   ·
                    rw [if_neg c31] at H
                    have c31b0 : ((bt (rdOf ByteArray.empty t258 x10_2) x12_3) == 45) = false := beq_eq_false_iff_ne.mpr c31; have c31b1 : ((bt (rdOf ByteArray.empty t258 x10_2) x12_3) != 45) = true := bne_iff_ne.mpr c31; have H' := Aside0.mk H; clear H; have p266 : 0 ≤ (x10_2 : Int) := zD; have q266 : x10_2 < (t258.length : Int) := zD; obtain ⟨ad266, e266, hx266_0⟩ := Kd.at_string (Kd.R_reads' HO_8.out).2.2 x10_2 p266 q266; obtain rfl : ad262 = ad266 := (by injection e266); replace p266 := eq_true p266; replace q266 := eq_true q266; have p30 : 0 ≤ (x12_3 : Int) := zD; have q30 : x12_3 < ((rdOf ByteArray.empty t258 x10_2).size : Int) := zD; have hx30 := bt_at (rdOf ByteArray.empty t258 x10_2) x12_3; replace p30 := eq_true p30; replace q30 := eq_true q30; have p267 : 0 ≤ (x10_2 : Int) := zD; have q267 : x10_2 < (t258.length : Int) := zD; obtain ⟨ad267, e267, hx267_0⟩ := Kd.at_string (Kd.R_reads' HO_8.out).2.2 x10_2 p267 q267; obtain rfl : ad262 = ad267 := (by injection e267); replace p267 := eq_true p267; replace q267 := eq_true q267; have p32 : 0 ≤ (x12_3 : Int) := zD; have q32 : x12_3 < ((rdOf ByteArray.empty t258 x10_2).size : Int) := zD; have hx32 := bt_at (rdOf ByteArray.empty t258 x10_2) x12_3; replace p32 := eq_true p32; replace q32 := eq_true q32
                    go_wp2
                    go_roundg kj16
                    case measure => have := HJ4.out; have := HK2.out; have := HK3.out; have := HJ16.out; omega
                    case rel => exact ⟨(wrap64 ((wrap64 (10 * x11_3)) + (((bt (rdOf ByteArray.empty t258 x10_2) x12_3) - 48) % 256))), (wrap64 (x12_3 + 1)), (by first | rfl | (simp; done) | (simp [*]; done)), (by first | rfl | (simp; done) | (simp [*]; done)), H', ⟨by have := HJ4.out; have := HK2.out; have := HK3.out; have := HJ16.out; omega⟩, ⟨zR HO_8⟩, ⟨zR HO_9⟩, ⟨zB⟩⟩
                  ·
                   rw [if_neg c29] at H
                   exact absurd H (by simp)
                 ·
                  rw [if_neg c28] at H
                  exact absurd H (by simp)
                ·
                 rw [if_neg c27] at H
                 exact absurd H (by simp)
               ·
                rw [if_neg c26] at H
                exact absurd H (by simp)
           ·
            rw [if_neg c16] at H
            have c16b0 : decide (x12_3 < ((rdOf ByteArray.empty t258 x10_2).size : Int)) = false := decide_eq_false c16; clear c16; have HC33 := Aside0.mk H; clear H; have p262 : 0 ≤ (x10_2 : Int) := zD; have q262 : x10_2 < (t258.length : Int) := zD; obtain ⟨ad262, e262, hx262_0⟩ := Kd.at_string (Kd.R_reads' HO_8.out).2.2 x10_2 p262 q262
            cases e262
            replace p262 := eq_true p262; replace q262 := eq_true q262
            go_upto_region 16 with (fail)
            go_cut [102] (fun v102 wc => ∃ (kq : Nat) (x102_32 : Bool), v102 = .bool x102_32 ∧ Aside0 (annuitantref36_numbers.j4 kq t258 x9_2 x10_2 x11_3 x102_32 = some (r1, r2)) ∧ Aside0 (kq ≤ k3) ∧ Aside0 (Kd.R Kd.string 9 wc w.heap.size (fun _ => True) (.slice (some ad262) t258.length co13) t258) ∧ Aside0 (Kd.R (Kd.int .i64) 3 wc w.heap.size (fun _ => True) u9 x9_2) ∧ Aside0 (Below w.heap.size w wc))
            case first =>
             have H := HC33.out; clear HC33
             by_cases c34 : ((rdOf ByteArray.empty t258 x10_2).size : Int) > 0
             ·
              rw [if_pos c34] at H
              have c34b0 : decide (0 < ((rdOf ByteArray.empty t258 x10_2).size : Int)) = true := decide_eq_true c34; have c34b1 : decide (0 < (rdOf ByteArray.empty t258 x10_2).size) = true := decide_eq_true (by omega); clear c34
              (first | rw [c34b0] | (simp only [i64_w, i32_w]; rw [c34b0]) | skip)
              by_cases c35 : 0 < ((rdOf ByteArray.empty t258 x10_2).size : Int)
              ·
               rw [if_pos c35] at H
               have c35b0 : decide (0 < ((rdOf ByteArray.empty t258 x10_2).size : Int)) = true := decide_eq_true c35; have c35b1 : decide (0 < (rdOf ByteArray.empty t258 x10_2).size) = true := decide_eq_true (by omega); clear c35; have H' := Aside0.mk H; clear H; have p268 : 0 ≤ (x10_2 : Int) := zD; have q268 : x10_2 < (t258.length : Int) := zD; obtain ⟨ad268, e268, hx268_0⟩ := Kd.at_string (Kd.R_reads' HO_8.out).2.2 x10_2 p268 q268; obtain rfl : ad262 = ad268 := (by injection e268); replace p268 := eq_true p268; replace q268 := eq_true q268; have p269 : 0 ≤ (x10_2 : Int) := zD; have q269 : x10_2 < (t258.length : Int) := zD; obtain ⟨ad269, e269, hx269_0⟩ := Kd.at_string (Kd.R_reads' HO_8.out).2.2 x10_2 p269 q269; obtain rfl : ad262 = ad269 := (by injection e269); replace p269 := eq_true p269; replace q269 := eq_true q269; have p36 : 0 ≤ (0 : Int) := (by omega); have q36 : 0 < (rdOf ByteArray.empty t258 x10_2).size := (by have : (0 : Int) < ((rdOf ByteArray.empty t258 x10_2).size : Int) := zD; omega)
               have hx36 : ∀ h : 0 < (rdOf ByteArray.empty t258 x10_2).size, (((rdOf ByteArray.empty t258 x10_2)[0]'h).toNat : Int) = bt (rdOf ByteArray.empty t258 x10_2) 0 := bt_at (rdOf ByteArray.empty t258 x10_2) 0
               clear p36; have qi36 : (0 < ((rdOf ByteArray.empty t258 x10_2).size : Int)) = True := eq_true (zD); replace q36 := eq_true q36
               go_wp2
               go_meet
               case rel => exact ⟨_, (((bt (rdOf ByteArray.empty t258 x10_2) 0) == 45)), (by first | rfl | (simp; done) | (simp [*]; done)), H', ⟨by have := HJ4.out; have := HK2.out; have := HK3.out; first | omega | exact Nat.le_refl _⟩, ⟨zR HO_8⟩, ⟨zR HO_9⟩, ⟨zB⟩⟩
              ·
               rw [if_neg c35] at H
               exact absurd H (by simp)
             ·
              rw [if_neg c34] at H
              have c34b0 : decide (0 < ((rdOf ByteArray.empty t258 x10_2).size : Int)) = false := decide_eq_false c34; have c34b1 : decide (0 < (rdOf ByteArray.empty t258 x10_2).size) = false := decide_eq_false (by omega); clear c34
              (first | rw [c34b0] | (simp only [i64_w, i32_w]; rw [c34b0]) | skip)
              have H' := Aside0.mk H; clear H; have p268 : 0 ≤ (x10_2 : Int) := zD; have q268 : x10_2 < (t258.length : Int) := zD; obtain ⟨ad268, e268, hx268_0⟩ := Kd.at_string (Kd.R_reads' HO_8.out).2.2 x10_2 p268 q268; obtain rfl : ad262 = ad268 := (by injection e268); replace p268 := eq_true p268; replace q268 := eq_true q268
              go_wp2
              go_meet
              case rel => exact ⟨_, (false), (by first | rfl | (simp; done) | (simp [*]; done)), H', ⟨by have := HJ4.out; have := HK2.out; have := HK3.out; first | omega | exact Nat.le_refl _⟩, ⟨zR HO_8⟩, ⟨zR HO_9⟩, ⟨zB⟩⟩
            case rest =>
             clear HC33
             try clear c1
             try clear c2
             try clear p2
             try clear q2
             try clear hx2
             try clear qi2
             try clear c3
             try clear p3
             try clear q3
             try clear hx3
             try clear qi3
             try clear p6
             try clear c7
             try clear c7b0
             try clear c7b1
             try clear c8
             try clear c8b0
             try clear c8b1
             try clear c11
             try clear c12
             try clear c12b0
             try clear c14
             try clear c14b0
             try clear c15
             try clear c15b0
             try clear c16
             try clear c16b0
             try clear c18
             try clear c18b0
             try clear c19
             try clear c19b0
             try clear p20
             try clear q20
             try clear hx20
             try clear c21
             try clear c21b0
             try clear c21b1
             try clear p22
             try clear q22
             try clear hx22
             try clear c23
             try clear c23b0
             try clear p24
             try clear q24
             try clear hx24
             try clear c25
             try clear c26
             try clear c26b0
             try clear p26
             try clear q26
             try clear hx26
             try clear qi26
             try clear c27
             try clear c27b0
             try clear c28
             try clear c28b0
             try clear c29
             try clear c29b0
             try clear p30
             try clear q30
             try clear hx30
             try clear c31
             try clear c31b0
             try clear c31b1
             try clear p32
             try clear q32
             try clear hx32
             try clear c34
             try clear c34b0
             try clear c34b1
             try clear c35
             try clear c35b0
             try clear c35b1
             try clear p36
             try clear q36
             try clear hx36
             try clear qi36
             try clear hx261_0
             try clear hx262_0
             try clear hx263_0
             try clear hx264_0
             try clear hx265_0
             try clear hx266_0
             try clear hx267_0
             try clear hx268_0
             try clear hx269_0
             try clear p2
             try clear p20
             try clear p22
             try clear p24
             try clear p261
             try clear p262
             try clear p263
             try clear p264
             try clear p265
             try clear p266
             try clear p267
             try clear p268
             try clear p269
             try clear p30
             try clear p32
             try clear p36
             try clear p6
             try clear q2
             try clear q20
             try clear q22
             try clear q24
             try clear q261
             try clear q262
             try clear q263
             try clear q264
             try clear q265
             try clear q266
             try clear q267
             try clear q268
             try clear q269
             try clear q30
             try clear q32
             try clear q36
             obtain ⟨kq, x102_32, rfl, HA, HJ32, HO_8, HO_9, HB⟩ := hcut
             cases kq with
             | zero => exact absurd HA.out (by simp [annuitantref36_numbers.j4])
             | succ kj32 =>
              have H := HA.out; clear HA
              simp only [annuitantref36_numbers.j4] at H
              by_cases c37 : x102_32 = true
              ·
               subst c37
               have H1 : (if (wrap64 (-x11_3)) < (-1099511627776) then (some (([] : List Int), false)) else (if (wrap64 (-x11_3)) > 1099511627776 then (some (([] : List Int), false)) else ((annuitantref36_decimal.f kj32 (wrap64 (-x11_3))).bind fun t270 => (if 0 ≤ x10_2 then (if x10_2 < (t258.length : Int) then (if t270.toList = (rdOf ByteArray.empty t258 x10_2).toList then (if x9_2.length < 17592186044416 then (annuitantref36_numbers.l0 kj32 t258 (x9_2 ++ [wrap64 (-x11_3)]) (wrap64 (x10_2 + 1))) else (none)) else (some (([] : List Int), false))) else (none)) else (none))))) = some (r1, r2) := by rw [if_pos rfl] at H; exact H
               clear H; have H := H1; clear H1
               by_cases c38 : (wrap64 (-x11_3)) < (-1099511627776)
               ·
                rw [if_pos c38] at H
                have c38b0 : decide ((wrap64 (-x11_3)) < (-1099511627776)) = true := decide_eq_true c38; clear c38
                simp only [Option.some.injEq, Prod.mk.injEq] at H
                obtain ⟨rfl, rfl⟩ := H
                try go_wp2
                replace HO_8 := Aside0.mk (Kd.R_drew HO_8.out); replace HO_9 := Aside0.mk (Kd.R_drew HO_9.out); replace HB := Aside0.mk (below_drew1 HB.out); 
                refine start_ (n := 15) (S := fun w' => True) (ds := []) zbuz0 (by kernel_rfl) rfl rfl trivial (fun hHeld => ?_); refine with_tabW annuitantref36_numbers.tab18 annuitantref36_numbers.bits18 (fun HT_ HW_ => ?_)
                generalize wc.drew = w39 at HO_8 HO_9 HB hHeld ⊢
                refine zbup 0 (some 105) zbuz1 rfl rfl (any_of HT_.out (by kernel_rfl)) zbuq (Or.inl ⟨by rfl, by intro w'; go_simp; with_reducible rfl⟩) (by simp only [Act.put, zbu1, zbu2, zbu3, i64_w, i32_w]; rfl) ?_
                refine zbup 1 (some 106) zbuz2 rfl rfl (any_of HT_.out (by kernel_rfl)) zbuq (Or.inl ⟨by rfl, by intro w'; go_simp; with_reducible rfl⟩) (by simp only [Act.put, zbu1, zbu2, zbu3, i64_w, i32_w]; rfl) ?_
                refine zbup 2 (some 107) zbuz3 rfl rfl (any_of HT_.out (by kernel_rfl)) zbuq (Or.inl ⟨by rfl, by intro w'; go_simp; with_reducible rfl⟩) (by simp only [Act.put, zbu1, zbu2, zbu3, i64_w, i32_w]; rfl) ?_
                refine zbup 3 (some 108) zbuz4 rfl rfl (any_of HT_.out (by kernel_rfl)) zbuq (Or.inr ⟨by rfl, rfl⟩) (by simp only [Act.put, zbu1, zbu2, zbu3, i64_w, i32_w]; rfl) ?_
                refine zbup 4 (some 109) zbuz5 rfl rfl (any_of HT_.out (by kernel_rfl)) zbuq (Or.inr ⟨by rfl, rfl⟩) (by simp only [Act.put, zbu1, zbu2, zbu3, i64_w, i32_w]; rfl) ?_
                refine zbup 5 (some 110) zbuz6 rfl rfl (any_of HT_.out (by kernel_rfl)) zbuq (Or.inl ⟨by rfl, by intro w'; go_simp; with_reducible rfl⟩) (by simp only [Act.put, zbu1, zbu2, zbu3, i64_w, i32_w]; rfl) ?_
                refine zbup 6 (some 111) zbuz7 rfl rfl (any_of HT_.out (by kernel_rfl)) zbuq (Or.inl ⟨by rfl, by intro w'; go_simp; with_reducible rfl⟩) (by simp only [Act.put, zbu1, zbu2, zbu3, i64_w, i32_w]; rfl) ?_
                refine zbup 7 (some 112) zbuz8 rfl rfl (any_of HT_.out (by kernel_rfl)) zbuq (Or.inr ⟨by rfl, rfl⟩) (by simp only [Act.put, zbu1, zbu2, zbu3, i64_w, i32_w]; rfl) ?_
                refine zbup 8 (some 113) zbuz9 rfl rfl (any_of HT_.out (by kernel_rfl)) zbuq (Or.inr ⟨by rfl, rfl⟩) (by simp only [Act.put, zbu1, zbu2, zbu3, i64_w, i32_w]; rfl) ?_
                refine zbup 9 (some 114) zbuz10 rfl rfl (any_of HT_.out (by kernel_rfl)) zbuq (Or.inr ⟨by rfl, rfl⟩) (by simp only [Act.put, zbu1, zbu2, zbu3, i64_w, i32_w]; rfl) ?_
                refine zbup 10 (some 115) zbuz11 rfl rfl (any_of HT_.out (by kernel_rfl)) zbuq (Or.inr ⟨by rfl, rfl⟩) (by simp only [Act.put, zbu1, zbu2, zbu3, i64_w, i32_w]; rfl) ?_
                refine zbup 11 (some 116) zbuz12 rfl rfl (any_of HT_.out (by kernel_rfl)) zbuq (Or.inr ⟨by rfl, rfl⟩) (by simp only [Act.put, zbu1, zbu2, zbu3, i64_w, i32_w]; rfl) ?_
                refine zbup 12 (some 117) zbuz13 rfl rfl (any_of HT_.out (by kernel_rfl)) zbuq (Or.inr ⟨by rfl, rfl⟩) (by simp only [Act.put, zbu1, zbu2, zbu3, i64_w, i32_w]; rfl) ?_
                refine zbup 13 (some 118) zbuz14 rfl rfl (any_of HT_.out (by kernel_rfl)) zbuq (Or.inr ⟨by rfl, rfl⟩) (by simp only [Act.put, zbu1, zbu2, zbu3, i64_w, i32_w]; rfl) ?_
                refine zbup 14 (some 119) zbuz15 rfl rfl (any_of HT_.out (by kernel_rfl)) zbuq (Or.inl ⟨by rfl, by intro w'; go_simp; with_reducible rfl⟩) (by simp only [Act.put, zbu1, zbu2, zbu3, i64_w, i32_w]; rfl) ?_
                refine done_ (done_of HT_.out (by kernel_rfl)) ?_
                try go_wp2
                go_ret2
                exact ⟨_, zE, by first | exact Kd.R_nil _ _ _ _ _ | exact Kd.N_nil _ _ _ _ _ | exact Kd.V_nil _ _ _ _ _ | exact Kd.Q_nil _ _ _ _ _ | exact Kd.S_nil _ _ _ _ _, zB⟩
               ·
                rw [if_neg c38] at H
                have c38b0 : decide ((wrap64 (-x11_3)) < (-1099511627776)) = false := decide_eq_false c38; clear c38
                by_cases c40 : (wrap64 (-x11_3)) > 1099511627776
                ·
                 rw [if_pos c40] at H
                 have c40b0 : decide (1099511627776 < (wrap64 (-x11_3))) = true := decide_eq_true c40; clear c40
                 simp only [Option.some.injEq, Prod.mk.injEq] at H
                 obtain ⟨rfl, rfl⟩ := H
                 try go_wp2
                 replace HO_8 := Aside0.mk (Kd.R_drew HO_8.out); replace HO_9 := Aside0.mk (Kd.R_drew HO_9.out); replace HB := Aside0.mk (below_drew1 HB.out); 
                 refine start_ (n := 15) (S := fun w' => True) (ds := []) zbuz0 (by kernel_rfl) rfl rfl trivial (fun hHeld => ?_); refine with_tabW annuitantref36_numbers.tab18 annuitantref36_numbers.bits18 (fun HT_ HW_ => ?_)
                 generalize wc.drew = w41 at HO_8 HO_9 HB hHeld ⊢
                 refine zbup 0 (some 105) zbuz1 rfl rfl (any_of HT_.out (by kernel_rfl)) zbuq (Or.inl ⟨by rfl, by intro w'; go_simp; with_reducible rfl⟩) (by simp only [Act.put, zbu1, zbu2, zbu3, i64_w, i32_w]; rfl) ?_
                 refine zbup 1 (some 106) zbuz2 rfl rfl (any_of HT_.out (by kernel_rfl)) zbuq (Or.inl ⟨by rfl, by intro w'; go_simp; with_reducible rfl⟩) (by simp only [Act.put, zbu1, zbu2, zbu3, i64_w, i32_w]; rfl) ?_
                 refine zbup 2 (some 107) zbuz3 rfl rfl (any_of HT_.out (by kernel_rfl)) zbuq (Or.inl ⟨by rfl, by intro w'; go_simp; with_reducible rfl⟩) (by simp only [Act.put, zbu1, zbu2, zbu3, i64_w, i32_w]; rfl) ?_
                 refine zbup 3 (some 108) zbuz4 rfl rfl (any_of HT_.out (by kernel_rfl)) zbuq (Or.inl ⟨by rfl, by intro w'; go_simp; with_reducible rfl⟩) (by simp only [Act.put, zbu1, zbu2, zbu3, i64_w, i32_w]; rfl) ?_
                 refine zbup 4 (some 109) zbuz5 rfl rfl (any_of HT_.out (by kernel_rfl)) zbuq (Or.inl ⟨by rfl, by intro w'; go_simp; with_reducible rfl⟩) (by simp only [Act.put, zbu1, zbu2, zbu3, i64_w, i32_w]; rfl) ?_
                 refine zbup 5 (some 110) zbuz6 rfl rfl (any_of HT_.out (by kernel_rfl)) zbuq (Or.inl ⟨by rfl, by intro w'; go_simp; with_reducible rfl⟩) (by simp only [Act.put, zbu1, zbu2, zbu3, i64_w, i32_w]; rfl) ?_
                 refine zbup 6 (some 111) zbuz7 rfl rfl (any_of HT_.out (by kernel_rfl)) zbuq (Or.inl ⟨by rfl, by intro w'; go_simp; with_reducible rfl⟩) (by simp only [Act.put, zbu1, zbu2, zbu3, i64_w, i32_w]; rfl) ?_
                 refine zbup 7 (some 112) zbuz8 rfl rfl (any_of HT_.out (by kernel_rfl)) zbuq (Or.inr ⟨by rfl, rfl⟩) (by simp only [Act.put, zbu1, zbu2, zbu3, i64_w, i32_w]; rfl) ?_
                 refine zbup 8 (some 113) zbuz9 rfl rfl (any_of HT_.out (by kernel_rfl)) zbuq (Or.inr ⟨by rfl, rfl⟩) (by simp only [Act.put, zbu1, zbu2, zbu3, i64_w, i32_w]; rfl) ?_
                 refine zbup 9 (some 114) zbuz10 rfl rfl (any_of HT_.out (by kernel_rfl)) zbuq (Or.inr ⟨by rfl, rfl⟩) (by simp only [Act.put, zbu1, zbu2, zbu3, i64_w, i32_w]; rfl) ?_
                 refine zbup 10 (some 115) zbuz11 rfl rfl (any_of HT_.out (by kernel_rfl)) zbuq (Or.inr ⟨by rfl, rfl⟩) (by simp only [Act.put, zbu1, zbu2, zbu3, i64_w, i32_w]; rfl) ?_
                 refine zbup 11 (some 116) zbuz12 rfl rfl (any_of HT_.out (by kernel_rfl)) zbuq (Or.inr ⟨by rfl, rfl⟩) (by simp only [Act.put, zbu1, zbu2, zbu3, i64_w, i32_w]; rfl) ?_
                 refine zbup 12 (some 117) zbuz13 rfl rfl (any_of HT_.out (by kernel_rfl)) zbuq (Or.inr ⟨by rfl, rfl⟩) (by simp only [Act.put, zbu1, zbu2, zbu3, i64_w, i32_w]; rfl) ?_
                 refine zbup 13 (some 118) zbuz14 rfl rfl (any_of HT_.out (by kernel_rfl)) zbuq (Or.inr ⟨by rfl, rfl⟩) (by simp only [Act.put, zbu1, zbu2, zbu3, i64_w, i32_w]; rfl) ?_
                 refine zbup 14 (some 119) zbuz15 rfl rfl (any_of HT_.out (by kernel_rfl)) zbuq (Or.inl ⟨by rfl, by intro w'; go_simp; with_reducible rfl⟩) (by simp only [Act.put, zbu1, zbu2, zbu3, i64_w, i32_w]; rfl) ?_
                 refine done_ (done_of HT_.out (by kernel_rfl)) ?_
                 try go_wp2
                 go_ret2
                 exact ⟨_, zE, by first | exact Kd.R_nil _ _ _ _ _ | exact Kd.N_nil _ _ _ _ _ | exact Kd.V_nil _ _ _ _ _ | exact Kd.Q_nil _ _ _ _ _ | exact Kd.S_nil _ _ _ _ _, zB⟩
                ·
                 rw [if_neg c40] at H
                 have c40b0 : decide (1099511627776 < (wrap64 (-x11_3))) = false := decide_eq_false c40; clear c40; replace H := Option.bind_eq_some_iff.mp H; obtain ⟨t270, A420, H⟩ := H; replace H : (if 0 ≤ x10_2 then (if x10_2 < (t258.length : Int) then (if t270.toList = (rdOf ByteArray.empty t258 x10_2).toList then (if x9_2.length < 17592186044416 then (annuitantref36_numbers.l0 kj32 t258 (x9_2 ++ [wrap64 (-x11_3)]) (wrap64 (x10_2 + 1))) else (none)) else (some (([] : List Int), false))) else (none)) else (none)) = some (r1, r2) := H; have A42 := Aside0.mk A420; clear A420
                 by_cases c43 : 0 ≤ x10_2
                 ·
                  rw [if_pos c43] at H
                  have c43b0 : decide (0 ≤ x10_2) = true := decide_eq_true c43; clear c43
                  by_cases c44 : x10_2 < (t258.length : Int)
                  ·
                   rw [if_pos c44] at H
                   have c44b0 : decide (x10_2 < (t258.length : Int)) = true := decide_eq_true c44; clear c44
                   by_cases c45 : t270.toList = (rdOf ByteArray.empty t258 x10_2).toList
                   ·
                    rw [if_pos c45] at H
                    have c45b0 : (t270.toList == (rdOf ByteArray.empty t258 x10_2).toList) = true := beq_iff_eq.mpr c45; have c45b1 : (t270.toList != (rdOf ByteArray.empty t258 x10_2).toList) = false := bne_eq_false_iff_eq.mpr c45; clear c45
                    by_cases c46 : x9_2.length < 17592186044416
                    ·
                     rw [if_pos c46] at H
                     have LMc46 := Aside0.mk c46; clear c46
                     obtain ⟨y272, hy272⟩ : ∃ y_ : List Int, y_ = (x9_2 ++ [wrap64 (-x11_3)]) := ⟨_, rfl⟩
                     replace H : (annuitantref36_numbers.l0 kj32 t258 y272 (wrap64 (x10_2 + 1))) = some (r1, r2) := by first | (rw [hy272]; with_reducible exact H) | (have H2_ := (Option.bind_some _ _).symm.trans H; rw [hy272]; with_reducible exact H2_) | (have H2_ := (Option.bind_some _ _).symm.trans H; with_reducible exact H2_) | with_reducible exact H | (rw [hy272]; exact H) | exact H
                     have Ny272 := Aside0.mk hy272; clear hy272; have H' := Aside0.mk H; clear H
                     try go_wp2
                     replace HO_8 := Aside0.mk (Kd.R_drew HO_8.out); replace HO_9 := Aside0.mk (Kd.R_drew HO_9.out); replace HB := Aside0.mk (below_drew1 HB.out); have p271 : 0 ≤ (x10_2 : Int) := zD; have q271 : x10_2 < (t258.length : Int) := zD; obtain ⟨ad271, e271, hx271_0⟩ := Kd.at_string (Kd.R_reads' HO_8.out).2.2 x10_2 p271 q271; obtain rfl : ad262 = ad271 := (by injection e271); replace p271 := eq_true p271; replace q271 := eq_true q271
                     refine start_ (n := 15) (S := fun w' => w'.cell? (ad262.add (x10_2).toNat) = some (.string (rdOf ByteArray.empty t258 x10_2))) (ds := []) zbuz0 (by kernel_rfl) rfl rfl (hx271_0) (fun hHeld => ?_); refine with_tabW annuitantref36_numbers.tab18 annuitantref36_numbers.bits18 (fun HT_ HW_ => ?_)
                     generalize wc.drew = w47 at HO_8 HO_9 HB hx271_0 hHeld ⊢
                     refine zbup 0 (some 105) zbuz1 rfl rfl (any_of HT_.out (by kernel_rfl)) zbuq (Or.inl ⟨by rfl, by intro w'; go_simp; with_reducible rfl⟩) (by simp only [Act.put, zbu1, zbu2, zbu3, i64_w, i32_w]; rfl) ?_
                     refine zbup 1 (some 106) zbuz2 rfl rfl (any_of HT_.out (by kernel_rfl)) zbuq (Or.inl ⟨by rfl, by intro w'; go_simp; with_reducible rfl⟩) (by simp only [Act.put, zbu1, zbu2, zbu3, i64_w, i32_w]; rfl) ?_
                     refine zbup 2 (some 107) zbuz3 rfl rfl (any_of HT_.out (by kernel_rfl)) zbuq (Or.inl ⟨by rfl, by intro w'; go_simp; with_reducible rfl⟩) (by simp only [Act.put, zbu1, zbu2, zbu3, i64_w, i32_w]; rfl) ?_
                     refine zbup 3 (some 108) zbuz4 rfl rfl (any_of HT_.out (by kernel_rfl)) zbuq (Or.inl ⟨by rfl, by intro w'; go_simp; with_reducible rfl⟩) (by simp only [Act.put, zbu1, zbu2, zbu3, i64_w, i32_w]; rfl) ?_
                     refine zbup 4 (some 109) zbuz5 rfl rfl (any_of HT_.out (by kernel_rfl)) zbuq (Or.inl ⟨by rfl, by intro w'; go_simp; with_reducible rfl⟩) (by simp only [Act.put, zbu1, zbu2, zbu3, i64_w, i32_w]; rfl) ?_
                     refine zbup 5 (some 110) zbuz6 rfl rfl (any_of HT_.out (by kernel_rfl)) zbuq (Or.inl ⟨by rfl, by intro w'; go_simp; with_reducible rfl⟩) (by simp only [Act.put, zbu1, zbu2, zbu3, i64_w, i32_w]; rfl) ?_
                     refine zbup 6 (some 111) zbuz7 rfl rfl (any_of HT_.out (by kernel_rfl)) zbuq (Or.inl ⟨by rfl, by intro w'; go_simp; with_reducible rfl⟩) (by simp only [Act.put, zbu1, zbu2, zbu3, i64_w, i32_w]; rfl) ?_
                     refine zbup 7 (some 112) zbuz8 rfl rfl (any_of HT_.out (by kernel_rfl)) zbuq (Or.inl ⟨by rfl, by intro w'; go_simp; with_reducible rfl⟩) (by simp only [Act.put, zbu1, zbu2, zbu3, i64_w, i32_w]; rfl) ?_
                     refine zbup 9 (some 114) zbuz16 rfl rfl (any_of HT_.out (by kernel_rfl)) zbuq (Or.inl ⟨by rfl, by intro w'; go_simp; with_reducible rfl⟩) (by simp only [Act.put, zbu1, zbu2, zbu3, i64_w, i32_w]; rfl) ?_
                     refine zbup 10 (some 115) zbuz17 rfl rfl (any_of HT_.out (by kernel_rfl)) zbuq (Or.inl ⟨by rfl, by intro w'; go_simp; with_reducible rfl⟩) (by simp only [Act.put, zbu1, zbu2, zbu3, i64_w, i32_w]; rfl) ?_
                     refine zbup 11 (some 116) zbuz18 rfl rfl (any_of HT_.out (by kernel_rfl)) zbuq (Or.inl ⟨by rfl, by intro w'; go_simp; with_reducible rfl⟩) (by simp only [Act.put, zbu1, zbu2, zbu3, i64_w, i32_w]; rfl) ?_
                     refine take_ (i := 12) (N := some 117) (v := ?_) (a' := ?_) zbuz19 rfl rfl (take_ofW HT_.out HW_.out (by kernel_rfl)) (fun _ _ _ h => h) (Or.inl ⟨by rfl, ?_⟩) hHeld ?_ ?_
                     rotate_left
                     · intro w' s0; go_simp; with_reducible rfl
                     rotate_left
                     · simp only [Act.put, zbu1, zbu2, zbu3, i64_w, i32_w]; rfl
                     refine one_ (i := 8) (N := some 113) zbuz13 rfl rfl (one_of HT_.out (by kernel_rfl)) (by decide) (fun K hK => ?_)
                     refine goes_ Tryz.func58 (by kernel_rfl) rfl #[.int .i64 (wrap64 (-x11_3))] (by rfl) rfl rfl (by (try simp only [List.map_toArray, List.map_cons, List.map_nil]); try rfl) ?_
                     with_reducible refine (annuitantref36_decimal.calls kj32 (wrap64 (-x11_3)) t270 _ A42.out).mono ?_
                     rintro e w48 ⟨rfl, hb⟩
                     have HS0_ := (hb.cell (World.block_lt_of_cell? _ _ (hHeld))).trans (hHeld)
                     refine ⟨_, rfl, ?_⟩
                     have n0_ := Aside0.mk (Kd.R_below (zR HO_8) hb)
                     have n1_ := Aside0.mk (Kd.R_below (zR HO_9) hb)
                     have n2_ := zBs hb; clear HO_8; clear HO_9; clear HB; have HO_8 := n0_; have HO_9 := n1_; have HB := n2_; clear n0_ n1_ n2_
                     (try clear hb)
                     (try clear hb2)
                     (try clear hk)
                     (try clear hi)
                     refine hK.out _ _ (HS0_) (fun hHeld => ?_)
                     clear hK K
                     refine norm_ (a' := ?_) ?_ ?_
                     rotate_left
                     ·
                      show Act.put _ (some 113) _ = _
                      simp only [Act.put, zbu1, zbu2, zbu3, i64_w, i32_w]
                      rfl
                     refine zbup 13 (some 118) zbuz14 rfl rfl (any_of HT_.out (by kernel_rfl)) zbuq (Or.inl ⟨by rfl, by intro w'; go_simp; with_reducible rfl⟩) (by simp only [Act.put, zbu1, zbu2, zbu3, i64_w, i32_w]; rfl) ?_
                     refine zbup 14 (some 119) zbuz15 rfl rfl (any_of HT_.out (by kernel_rfl)) zbuq (Or.inl ⟨by rfl, by intro w'; go_simp; with_reducible rfl⟩) (by simp only [Act.put, zbu1, zbu2, zbu3, i64_w, i32_w]; rfl) ?_
                     refine done_ (done_of HT_.out (by kernel_rfl)) ?_
                     try go_wp2_with (first | ((with_reducible refine gate_builtin (b := .append) (xs := #[.tmp 120, .tmp 122]) rfl ?_); (try (refine gate_guard (by rfl) ?_; dsimp only)); at_builtin; refine Kd.R_append (Kd.int .i64) (w0 := w) w.heap.size rfl (.tmp 120) (.tmp 122) 44 3 (.int .i64 0) 8 rfl Tryz.underlying44 info3 rfl (by decide) (by omega) u9 x9_2 (wrap64 (-x11_3)) [.int .i64 (wrap64 (-x11_3))] (fun _ => True) (fun _ => False) rfl rfl ?aP (fun _ hk => hk.elim) ?aF ?aO ?aB ?aS ?aL ?_; (case aP => exact rfl); (case aB => exact zB); (case aF => exact (fun _ _ => trivial)); (case aO => exact (zR HO_9)); (case aS => exact (below_size zB)); (case aL => have := LMc46.out; omega); intro v273 w49 ho hb hg hat; rw [← Ny272.out] at ho; replace HO_8 := Aside0.mk (Kd.R_over' (zR HO_8) (Kd.R_typed (zR HO_9)) (by decide) hg); replace HB := Aside0.mk (hb); have HO274 := Aside0.mk (ho); clear HO_9; clear ho hb hg hat))
                     go_roundg kj32
                     case measure => have := HJ4.out; have := HK2.out; have := HK3.out; have := HJ32.out; omega
                     case rel => exact ⟨(y272), (wrap64 (x10_2 + 1)), (by first | rfl | (simp; done) | (simp [*]; done)), H', ⟨by have := HJ4.out; have := HK2.out; have := HK3.out; have := HJ32.out; omega⟩, ⟨zR HO_8⟩, ⟨zR HO274⟩, ⟨zB⟩⟩
                    ·
                     rw [if_neg c46] at H
                     exact absurd H (by simp)
                   ·
                    rw [if_neg c45] at H
                    have c45b0 : (t270.toList == (rdOf ByteArray.empty t258 x10_2).toList) = false := beq_eq_false_iff_ne.mpr c45; have c45b1 : (t270.toList != (rdOf ByteArray.empty t258 x10_2).toList) = true := bne_iff_ne.mpr c45
                    simp only [Option.some.injEq, Prod.mk.injEq] at H
                    obtain ⟨rfl, rfl⟩ := H
                    try go_wp2
                    replace HO_8 := Aside0.mk (Kd.R_drew HO_8.out); replace HO_9 := Aside0.mk (Kd.R_drew HO_9.out); replace HB := Aside0.mk (below_drew1 HB.out); have p271 : 0 ≤ (x10_2 : Int) := zD; have q271 : x10_2 < (t258.length : Int) := zD; obtain ⟨ad271, e271, hx271_0⟩ := Kd.at_string (Kd.R_reads' HO_8.out).2.2 x10_2 p271 q271; obtain rfl : ad262 = ad271 := (by injection e271); replace p271 := eq_true p271; replace q271 := eq_true q271
                    refine start_ (n := 15) (S := fun w' => w'.cell? (ad262.add (x10_2).toNat) = some (.string (rdOf ByteArray.empty t258 x10_2))) (ds := []) zbuz0 (by kernel_rfl) rfl rfl (hx271_0) (fun hHeld => ?_); refine with_tabW annuitantref36_numbers.tab18 annuitantref36_numbers.bits18 (fun HT_ HW_ => ?_)
                    generalize wc.drew = w50 at HO_8 HO_9 HB hx271_0 hHeld ⊢
                    refine zbup 0 (some 105) zbuz1 rfl rfl (any_of HT_.out (by kernel_rfl)) zbuq (Or.inl ⟨by rfl, by intro w'; go_simp; with_reducible rfl⟩) (by simp only [Act.put, zbu1, zbu2, zbu3, i64_w, i32_w]; rfl) ?_
                    refine zbup 1 (some 106) zbuz2 rfl rfl (any_of HT_.out (by kernel_rfl)) zbuq (Or.inl ⟨by rfl, by intro w'; go_simp; with_reducible rfl⟩) (by simp only [Act.put, zbu1, zbu2, zbu3, i64_w, i32_w]; rfl) ?_
                    refine zbup 2 (some 107) zbuz3 rfl rfl (any_of HT_.out (by kernel_rfl)) zbuq (Or.inl ⟨by rfl, by intro w'; go_simp; with_reducible rfl⟩) (by simp only [Act.put, zbu1, zbu2, zbu3, i64_w, i32_w]; rfl) ?_
                    refine zbup 3 (some 108) zbuz4 rfl rfl (any_of HT_.out (by kernel_rfl)) zbuq (Or.inl ⟨by rfl, by intro w'; go_simp; with_reducible rfl⟩) (by simp only [Act.put, zbu1, zbu2, zbu3, i64_w, i32_w]; rfl) ?_
                    refine zbup 4 (some 109) zbuz5 rfl rfl (any_of HT_.out (by kernel_rfl)) zbuq (Or.inl ⟨by rfl, by intro w'; go_simp; with_reducible rfl⟩) (by simp only [Act.put, zbu1, zbu2, zbu3, i64_w, i32_w]; rfl) ?_
                    refine zbup 5 (some 110) zbuz6 rfl rfl (any_of HT_.out (by kernel_rfl)) zbuq (Or.inl ⟨by rfl, by intro w'; go_simp; with_reducible rfl⟩) (by simp only [Act.put, zbu1, zbu2, zbu3, i64_w, i32_w]; rfl) ?_
                    refine zbup 6 (some 111) zbuz7 rfl rfl (any_of HT_.out (by kernel_rfl)) zbuq (Or.inl ⟨by rfl, by intro w'; go_simp; with_reducible rfl⟩) (by simp only [Act.put, zbu1, zbu2, zbu3, i64_w, i32_w]; rfl) ?_
                    refine zbup 7 (some 112) zbuz8 rfl rfl (any_of HT_.out (by kernel_rfl)) zbuq (Or.inl ⟨by rfl, by intro w'; go_simp; with_reducible rfl⟩) (by simp only [Act.put, zbu1, zbu2, zbu3, i64_w, i32_w]; rfl) ?_
                    refine zbup 9 (some 114) zbuz16 rfl rfl (any_of HT_.out (by kernel_rfl)) zbuq (Or.inl ⟨by rfl, by intro w'; go_simp; with_reducible rfl⟩) (by simp only [Act.put, zbu1, zbu2, zbu3, i64_w, i32_w]; rfl) ?_
                    refine zbup 10 (some 115) zbuz17 rfl rfl (any_of HT_.out (by kernel_rfl)) zbuq (Or.inl ⟨by rfl, by intro w'; go_simp; with_reducible rfl⟩) (by simp only [Act.put, zbu1, zbu2, zbu3, i64_w, i32_w]; rfl) ?_
                    refine zbup 11 (some 116) zbuz18 rfl rfl (any_of HT_.out (by kernel_rfl)) zbuq (Or.inl ⟨by rfl, by intro w'; go_simp; with_reducible rfl⟩) (by simp only [Act.put, zbu1, zbu2, zbu3, i64_w, i32_w]; rfl) ?_
                    refine take_ (i := 12) (N := some 117) (v := ?_) (a' := ?_) zbuz19 rfl rfl (take_ofW HT_.out HW_.out (by kernel_rfl)) (fun _ _ _ h => h) (Or.inl ⟨by rfl, ?_⟩) hHeld ?_ ?_
                    rotate_left
                    · intro w' s0; go_simp; with_reducible rfl
                    rotate_left
                    · simp only [Act.put, zbu1, zbu2, zbu3, i64_w, i32_w]; rfl
                    refine one_ (i := 8) (N := some 113) zbuz13 rfl rfl (one_of HT_.out (by kernel_rfl)) (by decide) (fun K hK => ?_)
                    refine goes_ Tryz.func58 (by kernel_rfl) rfl #[.int .i64 (wrap64 (-x11_3))] (by rfl) rfl rfl (by (try simp only [List.map_toArray, List.map_cons, List.map_nil]); try rfl) ?_
                    with_reducible refine (annuitantref36_decimal.calls kj32 (wrap64 (-x11_3)) t270 _ A42.out).mono ?_
                    rintro e w51 ⟨rfl, hb⟩
                    have HS0_ := (hb.cell (World.block_lt_of_cell? _ _ (hHeld))).trans (hHeld)
                    refine ⟨_, rfl, ?_⟩
                    have n0_ := Aside0.mk (Kd.R_below (zR HO_8) hb)
                    have n1_ := Aside0.mk (Kd.R_below (zR HO_9) hb)
                    have n2_ := zBs hb; clear HO_8; clear HO_9; clear HB; have HO_8 := n0_; have HO_9 := n1_; have HB := n2_; clear n0_ n1_ n2_
                    (try clear hb)
                    (try clear hb2)
                    (try clear hk)
                    (try clear hi)
                    refine hK.out _ _ (HS0_) (fun hHeld => ?_)
                    clear hK K
                    refine norm_ (a' := ?_) ?_ ?_
                    rotate_left
                    ·
                     show Act.put _ (some 113) _ = _
                     simp only [Act.put, zbu1, zbu2, zbu3, i64_w, i32_w]
                     rfl
                    refine zbup 13 (some 118) zbuz14 rfl rfl (any_of HT_.out (by kernel_rfl)) zbuq (Or.inl ⟨by rfl, by intro w'; go_simp; with_reducible rfl⟩) (by simp only [Act.put, zbu1, zbu2, zbu3, i64_w, i32_w]; rfl) ?_
                    refine zbup 14 (some 119) zbuz15 rfl rfl (any_of HT_.out (by kernel_rfl)) zbuq (Or.inl ⟨by rfl, by intro w'; go_simp; with_reducible rfl⟩) (by simp only [Act.put, zbu1, zbu2, zbu3, i64_w, i32_w]; rfl) ?_
                    refine done_ (done_of HT_.out (by kernel_rfl)) ?_
                    try go_wp2
                    go_ret2
                    exact ⟨_, zE, by first | exact Kd.R_nil _ _ _ _ _ | exact Kd.N_nil _ _ _ _ _ | exact Kd.V_nil _ _ _ _ _ | exact Kd.Q_nil _ _ _ _ _ | exact Kd.S_nil _ _ _ _ _, zB⟩
                  ·
                   rw [if_neg c44] at H
                   exact absurd H (by simp)
                 ·
                  rw [if_neg c43] at H
                  exact absurd H (by simp)
              ·
               replace c37 := Bool.eq_false_iff.mpr c37; subst c37
               have H1 : (if x11_3 < (-1099511627776) then (some (([] : List Int), false)) else (if x11_3 > 1099511627776 then (some (([] : List Int), false)) else ((annuitantref36_decimal.f kj32 x11_3).bind fun t275 => (if 0 ≤ x10_2 then (if x10_2 < (t258.length : Int) then (if t275.toList = (rdOf ByteArray.empty t258 x10_2).toList then (if x9_2.length < 17592186044416 then (annuitantref36_numbers.l0 kj32 t258 (x9_2 ++ [x11_3]) (wrap64 (x10_2 + 1))) else (none)) else (some (([] : List Int), false))) else (none)) else (none))))) = some (r1, r2) := by rw [if_neg (show ¬ (false = true) by decide)] at H; exact H
               clear H; have H := H1; clear H1
               by_cases c52 : x11_3 < (-1099511627776)
               ·
                rw [if_pos c52] at H
                have c52b0 : decide (x11_3 < (-1099511627776)) = true := decide_eq_true c52; clear c52
                simp only [Option.some.injEq, Prod.mk.injEq] at H
                obtain ⟨rfl, rfl⟩ := H
                try go_wp2
                replace HO_8 := Aside0.mk (Kd.R_drew HO_8.out); replace HO_9 := Aside0.mk (Kd.R_drew HO_9.out); replace HB := Aside0.mk (below_drew1 HB.out); 
                refine start_ (n := 15) (S := fun w' => True) (ds := []) zbuz0 (by kernel_rfl) rfl rfl trivial (fun hHeld => ?_); refine with_tabW annuitantref36_numbers.tab18 annuitantref36_numbers.bits18 (fun HT_ HW_ => ?_)
                generalize wc.drew = w53 at HO_8 HO_9 HB hHeld ⊢
                refine zbup 0 (some 105) zbuz1 rfl rfl (any_of HT_.out (by kernel_rfl)) zbuq (Or.inl ⟨by rfl, by intro w'; go_simp; with_reducible rfl⟩) (by simp only [Act.put, zbu1, zbu2, zbu3, i64_w, i32_w]; rfl) ?_
                refine zbup 1 (some 106) zbuz2 rfl rfl (any_of HT_.out (by kernel_rfl)) zbuq (Or.inl ⟨by rfl, by intro w'; go_simp; with_reducible rfl⟩) (by simp only [Act.put, zbu1, zbu2, zbu3, i64_w, i32_w]; rfl) ?_
                refine zbup 2 (some 107) zbuz3 rfl rfl (any_of HT_.out (by kernel_rfl)) zbuq (Or.inl ⟨by rfl, by intro w'; go_simp; with_reducible rfl⟩) (by simp only [Act.put, zbu1, zbu2, zbu3, i64_w, i32_w]; rfl) ?_
                refine zbup 3 (some 108) zbuz4 rfl rfl (any_of HT_.out (by kernel_rfl)) zbuq (Or.inr ⟨by rfl, rfl⟩) (by simp only [Act.put, zbu1, zbu2, zbu3, i64_w, i32_w]; rfl) ?_
                refine zbup 4 (some 109) zbuz5 rfl rfl (any_of HT_.out (by kernel_rfl)) zbuq (Or.inr ⟨by rfl, rfl⟩) (by simp only [Act.put, zbu1, zbu2, zbu3, i64_w, i32_w]; rfl) ?_
                refine zbup 5 (some 110) zbuz6 rfl rfl (any_of HT_.out (by kernel_rfl)) zbuq (Or.inl ⟨by rfl, by intro w'; go_simp; with_reducible rfl⟩) (by simp only [Act.put, zbu1, zbu2, zbu3, i64_w, i32_w]; rfl) ?_
                refine zbup 6 (some 111) zbuz7 rfl rfl (any_of HT_.out (by kernel_rfl)) zbuq (Or.inl ⟨by rfl, by intro w'; go_simp; with_reducible rfl⟩) (by simp only [Act.put, zbu1, zbu2, zbu3, i64_w, i32_w]; rfl) ?_
                refine zbup 7 (some 112) zbuz8 rfl rfl (any_of HT_.out (by kernel_rfl)) zbuq (Or.inr ⟨by rfl, rfl⟩) (by simp only [Act.put, zbu1, zbu2, zbu3, i64_w, i32_w]; rfl) ?_
                refine zbup 8 (some 113) zbuz9 rfl rfl (any_of HT_.out (by kernel_rfl)) zbuq (Or.inr ⟨by rfl, rfl⟩) (by simp only [Act.put, zbu1, zbu2, zbu3, i64_w, i32_w]; rfl) ?_
                refine zbup 9 (some 114) zbuz10 rfl rfl (any_of HT_.out (by kernel_rfl)) zbuq (Or.inr ⟨by rfl, rfl⟩) (by simp only [Act.put, zbu1, zbu2, zbu3, i64_w, i32_w]; rfl) ?_
                refine zbup 10 (some 115) zbuz11 rfl rfl (any_of HT_.out (by kernel_rfl)) zbuq (Or.inr ⟨by rfl, rfl⟩) (by simp only [Act.put, zbu1, zbu2, zbu3, i64_w, i32_w]; rfl) ?_
                refine zbup 11 (some 116) zbuz12 rfl rfl (any_of HT_.out (by kernel_rfl)) zbuq (Or.inr ⟨by rfl, rfl⟩) (by simp only [Act.put, zbu1, zbu2, zbu3, i64_w, i32_w]; rfl) ?_
                refine zbup 12 (some 117) zbuz13 rfl rfl (any_of HT_.out (by kernel_rfl)) zbuq (Or.inr ⟨by rfl, rfl⟩) (by simp only [Act.put, zbu1, zbu2, zbu3, i64_w, i32_w]; rfl) ?_
                refine zbup 13 (some 118) zbuz14 rfl rfl (any_of HT_.out (by kernel_rfl)) zbuq (Or.inr ⟨by rfl, rfl⟩) (by simp only [Act.put, zbu1, zbu2, zbu3, i64_w, i32_w]; rfl) ?_
                refine zbup 14 (some 119) zbuz15 rfl rfl (any_of HT_.out (by kernel_rfl)) zbuq (Or.inl ⟨by rfl, by intro w'; go_simp; with_reducible rfl⟩) (by simp only [Act.put, zbu1, zbu2, zbu3, i64_w, i32_w]; rfl) ?_
                refine done_ (done_of HT_.out (by kernel_rfl)) ?_
                try go_wp2
                go_ret2
                exact ⟨_, zE, by first | exact Kd.R_nil _ _ _ _ _ | exact Kd.N_nil _ _ _ _ _ | exact Kd.V_nil _ _ _ _ _ | exact Kd.Q_nil _ _ _ _ _ | exact Kd.S_nil _ _ _ _ _, zB⟩
               ·
                rw [if_neg c52] at H
                have c52b0 : decide (x11_3 < (-1099511627776)) = false := decide_eq_false c52; clear c52
                by_cases c54 : x11_3 > 1099511627776
                ·
                 rw [if_pos c54] at H
                 have c54b0 : decide (1099511627776 < x11_3) = true := decide_eq_true c54; clear c54
                 simp only [Option.some.injEq, Prod.mk.injEq] at H
                 obtain ⟨rfl, rfl⟩ := H
                 try go_wp2
                 replace HO_8 := Aside0.mk (Kd.R_drew HO_8.out); replace HO_9 := Aside0.mk (Kd.R_drew HO_9.out); replace HB := Aside0.mk (below_drew1 HB.out); 
                 refine start_ (n := 15) (S := fun w' => True) (ds := []) zbuz0 (by kernel_rfl) rfl rfl trivial (fun hHeld => ?_); refine with_tabW annuitantref36_numbers.tab18 annuitantref36_numbers.bits18 (fun HT_ HW_ => ?_)
                 generalize wc.drew = w55 at HO_8 HO_9 HB hHeld ⊢
                 refine zbup 0 (some 105) zbuz1 rfl rfl (any_of HT_.out (by kernel_rfl)) zbuq (Or.inl ⟨by rfl, by intro w'; go_simp; with_reducible rfl⟩) (by simp only [Act.put, zbu1, zbu2, zbu3, i64_w, i32_w]; rfl) ?_
                 refine zbup 1 (some 106) zbuz2 rfl rfl (any_of HT_.out (by kernel_rfl)) zbuq (Or.inl ⟨by rfl, by intro w'; go_simp; with_reducible rfl⟩) (by simp only [Act.put, zbu1, zbu2, zbu3, i64_w, i32_w]; rfl) ?_
                 refine zbup 2 (some 107) zbuz3 rfl rfl (any_of HT_.out (by kernel_rfl)) zbuq (Or.inl ⟨by rfl, by intro w'; go_simp; with_reducible rfl⟩) (by simp only [Act.put, zbu1, zbu2, zbu3, i64_w, i32_w]; rfl) ?_
                 refine zbup 3 (some 108) zbuz4 rfl rfl (any_of HT_.out (by kernel_rfl)) zbuq (Or.inl ⟨by rfl, by intro w'; go_simp; with_reducible rfl⟩) (by simp only [Act.put, zbu1, zbu2, zbu3, i64_w, i32_w]; rfl) ?_
                 refine zbup 4 (some 109) zbuz5 rfl rfl (any_of HT_.out (by kernel_rfl)) zbuq (Or.inl ⟨by rfl, by intro w'; go_simp; with_reducible rfl⟩) (by simp only [Act.put, zbu1, zbu2, zbu3, i64_w, i32_w]; rfl) ?_
                 refine zbup 5 (some 110) zbuz6 rfl rfl (any_of HT_.out (by kernel_rfl)) zbuq (Or.inl ⟨by rfl, by intro w'; go_simp; with_reducible rfl⟩) (by simp only [Act.put, zbu1, zbu2, zbu3, i64_w, i32_w]; rfl) ?_
                 refine zbup 6 (some 111) zbuz7 rfl rfl (any_of HT_.out (by kernel_rfl)) zbuq (Or.inl ⟨by rfl, by intro w'; go_simp; with_reducible rfl⟩) (by simp only [Act.put, zbu1, zbu2, zbu3, i64_w, i32_w]; rfl) ?_
                 refine zbup 7 (some 112) zbuz8 rfl rfl (any_of HT_.out (by kernel_rfl)) zbuq (Or.inr ⟨by rfl, rfl⟩) (by simp only [Act.put, zbu1, zbu2, zbu3, i64_w, i32_w]; rfl) ?_
                 refine zbup 8 (some 113) zbuz9 rfl rfl (any_of HT_.out (by kernel_rfl)) zbuq (Or.inr ⟨by rfl, rfl⟩) (by simp only [Act.put, zbu1, zbu2, zbu3, i64_w, i32_w]; rfl) ?_
                 refine zbup 9 (some 114) zbuz10 rfl rfl (any_of HT_.out (by kernel_rfl)) zbuq (Or.inr ⟨by rfl, rfl⟩) (by simp only [Act.put, zbu1, zbu2, zbu3, i64_w, i32_w]; rfl) ?_
                 refine zbup 10 (some 115) zbuz11 rfl rfl (any_of HT_.out (by kernel_rfl)) zbuq (Or.inr ⟨by rfl, rfl⟩) (by simp only [Act.put, zbu1, zbu2, zbu3, i64_w, i32_w]; rfl) ?_
                 refine zbup 11 (some 116) zbuz12 rfl rfl (any_of HT_.out (by kernel_rfl)) zbuq (Or.inr ⟨by rfl, rfl⟩) (by simp only [Act.put, zbu1, zbu2, zbu3, i64_w, i32_w]; rfl) ?_
                 refine zbup 12 (some 117) zbuz13 rfl rfl (any_of HT_.out (by kernel_rfl)) zbuq (Or.inr ⟨by rfl, rfl⟩) (by simp only [Act.put, zbu1, zbu2, zbu3, i64_w, i32_w]; rfl) ?_
                 refine zbup 13 (some 118) zbuz14 rfl rfl (any_of HT_.out (by kernel_rfl)) zbuq (Or.inr ⟨by rfl, rfl⟩) (by simp only [Act.put, zbu1, zbu2, zbu3, i64_w, i32_w]; rfl) ?_
                 refine zbup 14 (some 119) zbuz15 rfl rfl (any_of HT_.out (by kernel_rfl)) zbuq (Or.inl ⟨by rfl, by intro w'; go_simp; with_reducible rfl⟩) (by simp only [Act.put, zbu1, zbu2, zbu3, i64_w, i32_w]; rfl) ?_
                 refine done_ (done_of HT_.out (by kernel_rfl)) ?_
                 try go_wp2
                 go_ret2
                 exact ⟨_, zE, by first | exact Kd.R_nil _ _ _ _ _ | exact Kd.N_nil _ _ _ _ _ | exact Kd.V_nil _ _ _ _ _ | exact Kd.Q_nil _ _ _ _ _ | exact Kd.S_nil _ _ _ _ _, zB⟩
                ·
                 rw [if_neg c54] at H
                 have c54b0 : decide (1099511627776 < x11_3) = false := decide_eq_false c54; clear c54; replace H := Option.bind_eq_some_iff.mp H; obtain ⟨t275, A560, H⟩ := H; replace H : (if 0 ≤ x10_2 then (if x10_2 < (t258.length : Int) then (if t275.toList = (rdOf ByteArray.empty t258 x10_2).toList then (if x9_2.length < 17592186044416 then (annuitantref36_numbers.l0 kj32 t258 (x9_2 ++ [x11_3]) (wrap64 (x10_2 + 1))) else (none)) else (some (([] : List Int), false))) else (none)) else (none)) = some (r1, r2) := H; have A56 := Aside0.mk A560; clear A560
                 by_cases c57 : 0 ≤ x10_2
                 ·
                  rw [if_pos c57] at H
                  have c57b0 : decide (0 ≤ x10_2) = true := decide_eq_true c57; clear c57
                  by_cases c58 : x10_2 < (t258.length : Int)
                  ·
                   rw [if_pos c58] at H
                   have c58b0 : decide (x10_2 < (t258.length : Int)) = true := decide_eq_true c58; clear c58
                   by_cases c59 : t275.toList = (rdOf ByteArray.empty t258 x10_2).toList
                   ·
                    rw [if_pos c59] at H
                    have c59b0 : (t275.toList == (rdOf ByteArray.empty t258 x10_2).toList) = true := beq_iff_eq.mpr c59; have c59b1 : (t275.toList != (rdOf ByteArray.empty t258 x10_2).toList) = false := bne_eq_false_iff_eq.mpr c59; clear c59
                    by_cases c60 : x9_2.length < 17592186044416
                    ·
                     rw [if_pos c60] at H
                     have LMc60 := Aside0.mk c60; clear c60
                     obtain ⟨y277, hy277⟩ : ∃ y_ : List Int, y_ = (x9_2 ++ [x11_3]) := ⟨_, rfl⟩
                     replace H : (annuitantref36_numbers.l0 kj32 t258 y277 (wrap64 (x10_2 + 1))) = some (r1, r2) := by first | (rw [hy277]; with_reducible exact H) | (have H2_ := (Option.bind_some _ _).symm.trans H; rw [hy277]; with_reducible exact H2_) | (have H2_ := (Option.bind_some _ _).symm.trans H; with_reducible exact H2_) | with_reducible exact H | (rw [hy277]; exact H) | exact H
                     have Ny277 := Aside0.mk hy277; clear hy277; have H' := Aside0.mk H; clear H
                     try go_wp2
                     replace HO_8 := Aside0.mk (Kd.R_drew HO_8.out); replace HO_9 := Aside0.mk (Kd.R_drew HO_9.out); replace HB := Aside0.mk (below_drew1 HB.out); have p276 : 0 ≤ (x10_2 : Int) := zD; have q276 : x10_2 < (t258.length : Int) := zD; obtain ⟨ad276, e276, hx276_0⟩ := Kd.at_string (Kd.R_reads' HO_8.out).2.2 x10_2 p276 q276; obtain rfl : ad262 = ad276 := (by injection e276); replace p276 := eq_true p276; replace q276 := eq_true q276
                     refine start_ (n := 15) (S := fun w' => w'.cell? (ad262.add (x10_2).toNat) = some (.string (rdOf ByteArray.empty t258 x10_2))) (ds := []) zbuz0 (by kernel_rfl) rfl rfl (hx276_0) (fun hHeld => ?_); refine with_tabW annuitantref36_numbers.tab18 annuitantref36_numbers.bits18 (fun HT_ HW_ => ?_)
                     generalize wc.drew = w61 at HO_8 HO_9 HB hx276_0 hHeld ⊢
                     refine zbup 0 (some 105) zbuz1 rfl rfl (any_of HT_.out (by kernel_rfl)) zbuq (Or.inl ⟨by rfl, by intro w'; go_simp; with_reducible rfl⟩) (by simp only [Act.put, zbu1, zbu2, zbu3, i64_w, i32_w]; rfl) ?_
                     refine zbup 1 (some 106) zbuz2 rfl rfl (any_of HT_.out (by kernel_rfl)) zbuq (Or.inl ⟨by rfl, by intro w'; go_simp; with_reducible rfl⟩) (by simp only [Act.put, zbu1, zbu2, zbu3, i64_w, i32_w]; rfl) ?_
                     refine zbup 2 (some 107) zbuz3 rfl rfl (any_of HT_.out (by kernel_rfl)) zbuq (Or.inl ⟨by rfl, by intro w'; go_simp; with_reducible rfl⟩) (by simp only [Act.put, zbu1, zbu2, zbu3, i64_w, i32_w]; rfl) ?_
                     refine zbup 3 (some 108) zbuz4 rfl rfl (any_of HT_.out (by kernel_rfl)) zbuq (Or.inl ⟨by rfl, by intro w'; go_simp; with_reducible rfl⟩) (by simp only [Act.put, zbu1, zbu2, zbu3, i64_w, i32_w]; rfl) ?_
                     refine zbup 4 (some 109) zbuz5 rfl rfl (any_of HT_.out (by kernel_rfl)) zbuq (Or.inl ⟨by rfl, by intro w'; go_simp; with_reducible rfl⟩) (by simp only [Act.put, zbu1, zbu2, zbu3, i64_w, i32_w]; rfl) ?_
                     refine zbup 5 (some 110) zbuz6 rfl rfl (any_of HT_.out (by kernel_rfl)) zbuq (Or.inl ⟨by rfl, by intro w'; go_simp; with_reducible rfl⟩) (by simp only [Act.put, zbu1, zbu2, zbu3, i64_w, i32_w]; rfl) ?_
                     refine zbup 6 (some 111) zbuz7 rfl rfl (any_of HT_.out (by kernel_rfl)) zbuq (Or.inl ⟨by rfl, by intro w'; go_simp; with_reducible rfl⟩) (by simp only [Act.put, zbu1, zbu2, zbu3, i64_w, i32_w]; rfl) ?_
                     refine zbup 7 (some 112) zbuz8 rfl rfl (any_of HT_.out (by kernel_rfl)) zbuq (Or.inl ⟨by rfl, by intro w'; go_simp; with_reducible rfl⟩) (by simp only [Act.put, zbu1, zbu2, zbu3, i64_w, i32_w]; rfl) ?_
                     refine zbup 9 (some 114) zbuz16 rfl rfl (any_of HT_.out (by kernel_rfl)) zbuq (Or.inl ⟨by rfl, by intro w'; go_simp; with_reducible rfl⟩) (by simp only [Act.put, zbu1, zbu2, zbu3, i64_w, i32_w]; rfl) ?_
                     refine zbup 10 (some 115) zbuz17 rfl rfl (any_of HT_.out (by kernel_rfl)) zbuq (Or.inl ⟨by rfl, by intro w'; go_simp; with_reducible rfl⟩) (by simp only [Act.put, zbu1, zbu2, zbu3, i64_w, i32_w]; rfl) ?_
                     refine zbup 11 (some 116) zbuz18 rfl rfl (any_of HT_.out (by kernel_rfl)) zbuq (Or.inl ⟨by rfl, by intro w'; go_simp; with_reducible rfl⟩) (by simp only [Act.put, zbu1, zbu2, zbu3, i64_w, i32_w]; rfl) ?_
                     refine take_ (i := 12) (N := some 117) (v := ?_) (a' := ?_) zbuz19 rfl rfl (take_ofW HT_.out HW_.out (by kernel_rfl)) (fun _ _ _ h => h) (Or.inl ⟨by rfl, ?_⟩) hHeld ?_ ?_
                     rotate_left
                     · intro w' s0; go_simp; with_reducible rfl
                     rotate_left
                     · simp only [Act.put, zbu1, zbu2, zbu3, i64_w, i32_w]; rfl
                     refine one_ (i := 8) (N := some 113) zbuz13 rfl rfl (one_of HT_.out (by kernel_rfl)) (by decide) (fun K hK => ?_)
                     refine goes_ Tryz.func58 (by kernel_rfl) rfl #[.int .i64 x11_3] (by rfl) rfl rfl (by (try simp only [List.map_toArray, List.map_cons, List.map_nil]); try rfl) ?_
                     with_reducible refine (annuitantref36_decimal.calls kj32 x11_3 t275 _ A56.out).mono ?_
                     rintro e w62 ⟨rfl, hb⟩
                     have HS0_ := (hb.cell (World.block_lt_of_cell? _ _ (hHeld))).trans (hHeld)
                     refine ⟨_, rfl, ?_⟩
                     have n0_ := Aside0.mk (Kd.R_below (zR HO_8) hb)
                     have n1_ := Aside0.mk (Kd.R_below (zR HO_9) hb)
                     have n2_ := zBs hb; clear HO_8; clear HO_9; clear HB; have HO_8 := n0_; have HO_9 := n1_; have HB := n2_; clear n0_ n1_ n2_
                     (try clear hb)
                     (try clear hb2)
                     (try clear hk)
                     (try clear hi)
                     refine hK.out _ _ (HS0_) (fun hHeld => ?_)
                     clear hK K
                     refine norm_ (a' := ?_) ?_ ?_
                     rotate_left
                     ·
                      show Act.put _ (some 113) _ = _
                      simp only [Act.put, zbu1, zbu2, zbu3, i64_w, i32_w]
                      rfl
                     refine zbup 13 (some 118) zbuz14 rfl rfl (any_of HT_.out (by kernel_rfl)) zbuq (Or.inl ⟨by rfl, by intro w'; go_simp; with_reducible rfl⟩) (by simp only [Act.put, zbu1, zbu2, zbu3, i64_w, i32_w]; rfl) ?_
                     refine zbup 14 (some 119) zbuz15 rfl rfl (any_of HT_.out (by kernel_rfl)) zbuq (Or.inl ⟨by rfl, by intro w'; go_simp; with_reducible rfl⟩) (by simp only [Act.put, zbu1, zbu2, zbu3, i64_w, i32_w]; rfl) ?_
                     refine done_ (done_of HT_.out (by kernel_rfl)) ?_
                     try go_wp2_with (first | ((with_reducible refine gate_builtin (b := .append) (xs := #[.tmp 120, .tmp 122]) rfl ?_); (try (refine gate_guard (by rfl) ?_; dsimp only)); at_builtin; refine Kd.R_append (Kd.int .i64) (w0 := w) w.heap.size rfl (.tmp 120) (.tmp 122) 44 3 (.int .i64 0) 8 rfl Tryz.underlying44 info3 rfl (by decide) (by omega) u9 x9_2 x11_3 [.int .i64 x11_3] (fun _ => True) (fun _ => False) rfl rfl ?aP (fun _ hk => hk.elim) ?aF ?aO ?aB ?aS ?aL ?_; (case aP => exact rfl); (case aB => exact zB); (case aF => exact (fun _ _ => trivial)); (case aO => exact (zR HO_9)); (case aS => exact (below_size zB)); (case aL => have := LMc60.out; omega); intro v278 w63 ho hb hg hat; rw [← Ny277.out] at ho; replace HO_8 := Aside0.mk (Kd.R_over' (zR HO_8) (Kd.R_typed (zR HO_9)) (by decide) hg); replace HB := Aside0.mk (hb); have HO279 := Aside0.mk (ho); clear HO_9; clear ho hb hg hat))
                     go_roundg kj32
                     case measure => have := HJ4.out; have := HK2.out; have := HK3.out; have := HJ32.out; omega
                     case rel => exact ⟨(y277), (wrap64 (x10_2 + 1)), (by first | rfl | (simp; done) | (simp [*]; done)), H', ⟨by have := HJ4.out; have := HK2.out; have := HK3.out; have := HJ32.out; omega⟩, ⟨zR HO_8⟩, ⟨zR HO279⟩, ⟨zB⟩⟩
                    ·
                     rw [if_neg c60] at H
                     exact absurd H (by simp)
                   ·
                    rw [if_neg c59] at H
                    have c59b0 : (t275.toList == (rdOf ByteArray.empty t258 x10_2).toList) = false := beq_eq_false_iff_ne.mpr c59; have c59b1 : (t275.toList != (rdOf ByteArray.empty t258 x10_2).toList) = true := bne_iff_ne.mpr c59
                    simp only [Option.some.injEq, Prod.mk.injEq] at H
                    obtain ⟨rfl, rfl⟩ := H
                    try go_wp2
                    replace HO_8 := Aside0.mk (Kd.R_drew HO_8.out); replace HO_9 := Aside0.mk (Kd.R_drew HO_9.out); replace HB := Aside0.mk (below_drew1 HB.out); have p276 : 0 ≤ (x10_2 : Int) := zD; have q276 : x10_2 < (t258.length : Int) := zD; obtain ⟨ad276, e276, hx276_0⟩ := Kd.at_string (Kd.R_reads' HO_8.out).2.2 x10_2 p276 q276; obtain rfl : ad262 = ad276 := (by injection e276); replace p276 := eq_true p276; replace q276 := eq_true q276
                    refine start_ (n := 15) (S := fun w' => w'.cell? (ad262.add (x10_2).toNat) = some (.string (rdOf ByteArray.empty t258 x10_2))) (ds := []) zbuz0 (by kernel_rfl) rfl rfl (hx276_0) (fun hHeld => ?_); refine with_tabW annuitantref36_numbers.tab18 annuitantref36_numbers.bits18 (fun HT_ HW_ => ?_)
                    generalize wc.drew = w64 at HO_8 HO_9 HB hx276_0 hHeld ⊢
                    refine zbup 0 (some 105) zbuz1 rfl rfl (any_of HT_.out (by kernel_rfl)) zbuq (Or.inl ⟨by rfl, by intro w'; go_simp; with_reducible rfl⟩) (by simp only [Act.put, zbu1, zbu2, zbu3, i64_w, i32_w]; rfl) ?_
                    refine zbup 1 (some 106) zbuz2 rfl rfl (any_of HT_.out (by kernel_rfl)) zbuq (Or.inl ⟨by rfl, by intro w'; go_simp; with_reducible rfl⟩) (by simp only [Act.put, zbu1, zbu2, zbu3, i64_w, i32_w]; rfl) ?_
                    refine zbup 2 (some 107) zbuz3 rfl rfl (any_of HT_.out (by kernel_rfl)) zbuq (Or.inl ⟨by rfl, by intro w'; go_simp; with_reducible rfl⟩) (by simp only [Act.put, zbu1, zbu2, zbu3, i64_w, i32_w]; rfl) ?_
                    refine zbup 3 (some 108) zbuz4 rfl rfl (any_of HT_.out (by kernel_rfl)) zbuq (Or.inl ⟨by rfl, by intro w'; go_simp; with_reducible rfl⟩) (by simp only [Act.put, zbu1, zbu2, zbu3, i64_w, i32_w]; rfl) ?_
                    refine zbup 4 (some 109) zbuz5 rfl rfl (any_of HT_.out (by kernel_rfl)) zbuq (Or.inl ⟨by rfl, by intro w'; go_simp; with_reducible rfl⟩) (by simp only [Act.put, zbu1, zbu2, zbu3, i64_w, i32_w]; rfl) ?_
                    refine zbup 5 (some 110) zbuz6 rfl rfl (any_of HT_.out (by kernel_rfl)) zbuq (Or.inl ⟨by rfl, by intro w'; go_simp; with_reducible rfl⟩) (by simp only [Act.put, zbu1, zbu2, zbu3, i64_w, i32_w]; rfl) ?_
                    refine zbup 6 (some 111) zbuz7 rfl rfl (any_of HT_.out (by kernel_rfl)) zbuq (Or.inl ⟨by rfl, by intro w'; go_simp; with_reducible rfl⟩) (by simp only [Act.put, zbu1, zbu2, zbu3, i64_w, i32_w]; rfl) ?_
                    refine zbup 7 (some 112) zbuz8 rfl rfl (any_of HT_.out (by kernel_rfl)) zbuq (Or.inl ⟨by rfl, by intro w'; go_simp; with_reducible rfl⟩) (by simp only [Act.put, zbu1, zbu2, zbu3, i64_w, i32_w]; rfl) ?_
                    refine zbup 9 (some 114) zbuz16 rfl rfl (any_of HT_.out (by kernel_rfl)) zbuq (Or.inl ⟨by rfl, by intro w'; go_simp; with_reducible rfl⟩) (by simp only [Act.put, zbu1, zbu2, zbu3, i64_w, i32_w]; rfl) ?_
                    refine zbup 10 (some 115) zbuz17 rfl rfl (any_of HT_.out (by kernel_rfl)) zbuq (Or.inl ⟨by rfl, by intro w'; go_simp; with_reducible rfl⟩) (by simp only [Act.put, zbu1, zbu2, zbu3, i64_w, i32_w]; rfl) ?_
                    refine zbup 11 (some 116) zbuz18 rfl rfl (any_of HT_.out (by kernel_rfl)) zbuq (Or.inl ⟨by rfl, by intro w'; go_simp; with_reducible rfl⟩) (by simp only [Act.put, zbu1, zbu2, zbu3, i64_w, i32_w]; rfl) ?_
                    refine take_ (i := 12) (N := some 117) (v := ?_) (a' := ?_) zbuz19 rfl rfl (take_ofW HT_.out HW_.out (by kernel_rfl)) (fun _ _ _ h => h) (Or.inl ⟨by rfl, ?_⟩) hHeld ?_ ?_
                    rotate_left
                    · intro w' s0; go_simp; with_reducible rfl
                    rotate_left
                    · simp only [Act.put, zbu1, zbu2, zbu3, i64_w, i32_w]; rfl
                    refine one_ (i := 8) (N := some 113) zbuz13 rfl rfl (one_of HT_.out (by kernel_rfl)) (by decide) (fun K hK => ?_)
                    refine goes_ Tryz.func58 (by kernel_rfl) rfl #[.int .i64 x11_3] (by rfl) rfl rfl (by (try simp only [List.map_toArray, List.map_cons, List.map_nil]); try rfl) ?_
                    with_reducible refine (annuitantref36_decimal.calls kj32 x11_3 t275 _ A56.out).mono ?_
                    rintro e w65 ⟨rfl, hb⟩
                    have HS0_ := (hb.cell (World.block_lt_of_cell? _ _ (hHeld))).trans (hHeld)
                    refine ⟨_, rfl, ?_⟩
                    have n0_ := Aside0.mk (Kd.R_below (zR HO_8) hb)
                    have n1_ := Aside0.mk (Kd.R_below (zR HO_9) hb)
                    have n2_ := zBs hb; clear HO_8; clear HO_9; clear HB; have HO_8 := n0_; have HO_9 := n1_; have HB := n2_; clear n0_ n1_ n2_
                    (try clear hb)
                    (try clear hb2)
                    (try clear hk)
                    (try clear hi)
                    refine hK.out _ _ (HS0_) (fun hHeld => ?_)
                    clear hK K
                    refine norm_ (a' := ?_) ?_ ?_
                    rotate_left
                    ·
                     show Act.put _ (some 113) _ = _
                     simp only [Act.put, zbu1, zbu2, zbu3, i64_w, i32_w]
                     rfl
                    refine zbup 13 (some 118) zbuz14 rfl rfl (any_of HT_.out (by kernel_rfl)) zbuq (Or.inl ⟨by rfl, by intro w'; go_simp; with_reducible rfl⟩) (by simp only [Act.put, zbu1, zbu2, zbu3, i64_w, i32_w]; rfl) ?_
                    refine zbup 14 (some 119) zbuz15 rfl rfl (any_of HT_.out (by kernel_rfl)) zbuq (Or.inl ⟨by rfl, by intro w'; go_simp; with_reducible rfl⟩) (by simp only [Act.put, zbu1, zbu2, zbu3, i64_w, i32_w]; rfl) ?_
                    refine done_ (done_of HT_.out (by kernel_rfl)) ?_
                    try go_wp2
                    go_ret2
                    exact ⟨_, zE, by first | exact Kd.R_nil _ _ _ _ _ | exact Kd.N_nil _ _ _ _ _ | exact Kd.V_nil _ _ _ _ _ | exact Kd.Q_nil _ _ _ _ _ | exact Kd.S_nil _ _ _ _ _, zB⟩
                  ·
                   rw [if_neg c58] at H
                   exact absurd H (by simp)
                 ·
                  rw [if_neg c57] at H
                  exact absurd H (by simp)
          ·
           rw [if_neg c15] at H
           exact absurd H (by simp)
         ·
          rw [if_neg c14] at H
          exact absurd H (by simp)
      ·
       rw [if_neg c12] at H
       have c12b0 : decide (x10_2 < (t258.length : Int)) = false := decide_eq_false c12; clear c12
       simp only [Option.some.injEq, Prod.mk.injEq] at H
       obtain ⟨rfl, rfl⟩ := H; obtain ⟨Ao66, co66, eo66⟩ := Kd.R_slice HO_8.out; subst eo66
       go_wp2
       go_ret2
       exact ⟨_, zE, zR HO_9, zB⟩
end Go.Proofs.YtndojpcjhkncgaaGreatDoor.Q
end

section
namespace Go.Proofs.YtndojpcjhkncgaaGreatDoor.Q
open Go.RowKit Go.Proofs.YtndojpcjhkncgaaGreatDoorW.PrintWords Go.Proofs.YtndojpcjhkncgaaGreatDoorW.PrintLast Go.Proofs.YtndojpcjhkncgaaGreatDoorW.PrintMore
attribute [local go_sem] max2_int min2_int max_two min_two max_three min_three max_four min_four   -- for this text's walks alone
set_option linter.unusedVariables false
set_option linter.unusedSimpArgs false
def annuitantref36_digits.l0 : Nat → ByteArray → Int → Option (Bool)
 | 0, _, _ => none
 | k + 1, x0, x3 => if x3 < (x0.size : Int) then (if 0 ≤ x3 then (if (bt x0 x3) < 48 then (if (bt x0 x3) < 97 then (some false) else (if (bt x0 x3) > 102 then (some false) else (annuitantref36_digits.l0 k x0 (wrap64 (x3 + 1))))) else (if (bt x0 x3) > 57 then (if (bt x0 x3) < 97 then (some false) else (if (bt x0 x3) > 102 then (some false) else (annuitantref36_digits.l0 k x0 (wrap64 (x3 + 1))))) else (annuitantref36_digits.l0 k x0 (wrap64 (x3 + 1))))) else (none)) else (some true)
def annuitantref36_digits.f (k : Nat) (a0 : ByteArray) : Option (Bool) := annuitantref36_digits.l0 k a0 0
set_option maxHeartbeats 8000000 in
set_option maxRecDepth 100000 in
theorem annuitantref36_digits.calls (k : Nat) (a0 : ByteArray) (r : Bool) (w : World) (h : annuitantref36_digits.f k a0 = some r) :
  Calls Tryz.prog 69 #[.string a0] w fun e w' => e = .returned (.bool r) ∧ Drawn0 w w' := by
 have H : (annuitantref36_digits.l0 k a0 0) = some r := h; clear h; have H' := Aside0.mk H; clear H
 go_enter Tryz.func69, Tryz.ntmps69
 go_wp2
 go_loopg [3] k (fun kq v3 w' => ∃ (x3_1 : Int), v3 = .int .i64 x3_1 ∧ Aside0 (annuitantref36_digits.l0 kq a0 x3_1 = some r) ∧ Aside0 (kq ≤ k) ∧ Drawn0 w w')
 case atStart => exact ⟨(0), (by first | rfl | (simp; done) | (simp [*]; done)), H', ⟨Nat.le_refl _⟩, by repeat (first | exact Drawn0.refl _ | apply Drawn0.step)⟩
 case round =>
  clear H'; obtain ⟨x3_1, rfl, HA, HK1, ⟨m1, rfl⟩⟩ := hrel
  cases gk with
  | zero => exact absurd HA.out (by simp [annuitantref36_digits.l0])
  | succ k1 =>
   have H := HA.out; clear HA
   simp only [annuitantref36_digits.l0] at H
   by_cases c2 : x3_1 < (a0.size : Int)
   ·
    rw [if_pos c2] at H
    have c2b0 : decide (x3_1 < (a0.size : Int)) = true := decide_eq_true c2; clear c2
    by_cases c3 : 0 ≤ x3_1
    ·
     rw [if_pos c3] at H
     have c3b0 : decide (0 ≤ x3_1) = true := decide_eq_true c3; clear c3
     by_cases c5 : (bt a0 x3_1) < 48
     ·
      rw [if_pos c5] at H
      have c5b0 : decide ((bt a0 x3_1) < 48) = true := decide_eq_true c5; clear c5
      by_cases c7 : (bt a0 x3_1) < 97
      ·
       rw [if_pos c7] at H
       have c7b0 : decide ((bt a0 x3_1) < 97) = true := decide_eq_true c7; clear c7; obtain rfl := Option.some.inj H; have p4 : 0 ≤ (x3_1 : Int) := zD; have q4 : x3_1 < (a0.size : Int) := zD; have hx4 := bt_at a0 x3_1; replace p4 := eq_true p4; replace q4 := eq_true q4; have p6 : 0 ≤ (x3_1 : Int) := zD; have q6 : x3_1 < (a0.size : Int) := zD; have hx6 := bt_at a0 x3_1; replace p6 := eq_true p6; replace q6 := eq_true q6
       go_wp2
       go_ret
       exact ⟨by first | rfl | (simp; done) | (simp [*]; done), by repeat (first | exact Drawn0.refl _ | apply Drawn0.step)⟩
      ·
       rw [if_neg c7] at H
       have c7b0 : decide ((bt a0 x3_1) < 97) = false := decide_eq_false c7; clear c7
       by_cases c9 : (bt a0 x3_1) > 102
       ·
        rw [if_pos c9] at H
        have c9b0 : decide (102 < (bt a0 x3_1)) = true := decide_eq_true c9; clear c9; obtain rfl := Option.some.inj H; have p4 : 0 ≤ (x3_1 : Int) := zD; have q4 : x3_1 < (a0.size : Int) := zD; have hx4 := bt_at a0 x3_1; replace p4 := eq_true p4; replace q4 := eq_true q4; have p6 : 0 ≤ (x3_1 : Int) := zD; have q6 : x3_1 < (a0.size : Int) := zD; have hx6 := bt_at a0 x3_1; replace p6 := eq_true p6; replace q6 := eq_true q6; have p8 : 0 ≤ (x3_1 : Int) := zD; have q8 : x3_1 < (a0.size : Int) := zD; have hx8 := bt_at a0 x3_1; replace p8 := eq_true p8; replace q8 := eq_true q8
        go_wp2
        go_ret
        exact ⟨by first | rfl | (simp; done) | (simp [*]; done), by repeat (first | exact Drawn0.refl _ | apply Drawn0.step)⟩
       ·
        rw [if_neg c9] at H
        have c9b0 : decide (102 < (bt a0 x3_1)) = false := decide_eq_false c9; clear c9; have H' := Aside0.mk H; clear H; have p4 : 0 ≤ (x3_1 : Int) := zD; have q4 : x3_1 < (a0.size : Int) := zD; have hx4 := bt_at a0 x3_1; replace p4 := eq_true p4; replace q4 := eq_true q4; have p6 : 0 ≤ (x3_1 : Int) := zD; have q6 : x3_1 < (a0.size : Int) := zD; have hx6 := bt_at a0 x3_1; replace p6 := eq_true p6; replace q6 := eq_true q6; have p8 : 0 ≤ (x3_1 : Int) := zD; have q8 : x3_1 < (a0.size : Int) := zD; have hx8 := bt_at a0 x3_1; replace p8 := eq_true p8; replace q8 := eq_true q8
        go_wp2
        go_roundg k1
        case measure => have := HK1.out; omega
        case rel => exact ⟨(wrap64 (x3_1 + 1)), (by first | rfl | (simp; done) | (simp [*]; done)), H', ⟨by have := HK1.out; omega⟩, by repeat (first | exact Drawn0.refl _ | apply Drawn0.step)⟩
     ·
      rw [if_neg c5] at H
      have c5b0 : decide ((bt a0 x3_1) < 48) = false := decide_eq_false c5; clear c5
      by_cases c11 : (bt a0 x3_1) > 57
      ·
       rw [if_pos c11] at H
       have c11b0 : decide (57 < (bt a0 x3_1)) = true := decide_eq_true c11; clear c11
       by_cases c13 : (bt a0 x3_1) < 97
       ·
        rw [if_pos c13] at H
        have c13b0 : decide ((bt a0 x3_1) < 97) = true := decide_eq_true c13; clear c13; obtain rfl := Option.some.inj H; have p4 : 0 ≤ (x3_1 : Int) := zD; have q4 : x3_1 < (a0.size : Int) := zD; have hx4 := bt_at a0 x3_1; replace p4 := eq_true p4; replace q4 := eq_true q4; have p10 : 0 ≤ (x3_1 : Int) := zD; have q10 : x3_1 < (a0.size : Int) := zD; have hx10 := bt_at a0 x3_1; replace p10 := eq_true p10; replace q10 := eq_true q10; have p12 : 0 ≤ (x3_1 : Int) := zD; have q12 : x3_1 < (a0.size : Int) := zD; have hx12 := bt_at a0 x3_1; replace p12 := eq_true p12; replace q12 := eq_true q12
        go_wp2
        go_ret
        exact ⟨by first | rfl | (simp; done) | (simp [*]; done), by repeat (first | exact Drawn0.refl _ | apply Drawn0.step)⟩
       ·
        rw [if_neg c13] at H
        have c13b0 : decide ((bt a0 x3_1) < 97) = false := decide_eq_false c13; clear c13
        by_cases c15 : (bt a0 x3_1) > 102
        ·
         rw [if_pos c15] at H
         have c15b0 : decide (102 < (bt a0 x3_1)) = true := decide_eq_true c15; clear c15; obtain rfl := Option.some.inj H; have p4 : 0 ≤ (x3_1 : Int) := zD; have q4 : x3_1 < (a0.size : Int) := zD; have hx4 := bt_at a0 x3_1; replace p4 := eq_true p4; replace q4 := eq_true q4; have p10 : 0 ≤ (x3_1 : Int) := zD; have q10 : x3_1 < (a0.size : Int) := zD; have hx10 := bt_at a0 x3_1; replace p10 := eq_true p10; replace q10 := eq_true q10; have p12 : 0 ≤ (x3_1 : Int) := zD; have q12 : x3_1 < (a0.size : Int) := zD; have hx12 := bt_at a0 x3_1; replace p12 := eq_true p12; replace q12 := eq_true q12; have p14 : 0 ≤ (x3_1 : Int) := zD; have q14 : x3_1 < (a0.size : Int) := zD; have hx14 := bt_at a0 x3_1; replace p14 := eq_true p14; replace q14 := eq_true q14
         go_wp2
         go_ret
         exact ⟨by first | rfl | (simp; done) | (simp [*]; done), by repeat (first | exact Drawn0.refl _ | apply Drawn0.step)⟩
        ·
         rw [if_neg c15] at H
         have c15b0 : decide (102 < (bt a0 x3_1)) = false := decide_eq_false c15; clear c15; have H' := Aside0.mk H; clear H; have p4 : 0 ≤ (x3_1 : Int) := zD; have q4 : x3_1 < (a0.size : Int) := zD; have hx4 := bt_at a0 x3_1; replace p4 := eq_true p4; replace q4 := eq_true q4; have p10 : 0 ≤ (x3_1 : Int) := zD; have q10 : x3_1 < (a0.size : Int) := zD; have hx10 := bt_at a0 x3_1; replace p10 := eq_true p10; replace q10 := eq_true q10; have p12 : 0 ≤ (x3_1 : Int) := zD; have q12 : x3_1 < (a0.size : Int) := zD; have hx12 := bt_at a0 x3_1; replace p12 := eq_true p12; replace q12 := eq_true q12; have p14 : 0 ≤ (x3_1 : Int) := zD; have q14 : x3_1 < (a0.size : Int) := zD; have hx14 := bt_at a0 x3_1; replace p14 := eq_true p14; replace q14 := eq_true q14
         go_wp2
         go_roundg k1
         case measure => have := HK1.out; omega
         case rel => exact ⟨(wrap64 (x3_1 + 1)), (by first | rfl | (simp; done) | (simp [*]; done)), H', ⟨by have := HK1.out; omega⟩, by repeat (first | exact Drawn0.refl _ | apply Drawn0.step)⟩
      ·
       rw [if_neg c11] at H
       have c11b0 : decide (57 < (bt a0 x3_1)) = false := decide_eq_false c11; clear c11; have H' := Aside0.mk H; clear H; have p4 : 0 ≤ (x3_1 : Int) := zD; have q4 : x3_1 < (a0.size : Int) := zD; have hx4 := bt_at a0 x3_1; replace p4 := eq_true p4; replace q4 := eq_true q4; have p10 : 0 ≤ (x3_1 : Int) := zD; have q10 : x3_1 < (a0.size : Int) := zD; have hx10 := bt_at a0 x3_1; replace p10 := eq_true p10; replace q10 := eq_true q10
       go_wp2
       go_roundg k1
       case measure => have := HK1.out; omega
       case rel => exact ⟨(wrap64 (x3_1 + 1)), (by first | rfl | (simp; done) | (simp [*]; done)), H', ⟨by have := HK1.out; omega⟩, by repeat (first | exact Drawn0.refl _ | apply Drawn0.step)⟩
    ·
     rw [if_neg c3] at H
     exact absurd H (by simp)
   ·
    rw [if_neg c2] at H
    have c2b0 : decide (x3_1 < (a0.size : Int)) = false := decide_eq_false c2; clear c2; obtain rfl := Option.some.inj H
    go_wp2
    go_ret
    exact ⟨by first | rfl | (simp; done) | (simp [*]; done), by repeat (first | exact Drawn0.refl _ | apply Drawn0.step)⟩
end Go.Proofs.YtndojpcjhkncgaaGreatDoor.Q
end

section
namespace Go.Proofs.YtndojpcjhkncgaaGreatDoor.Q
open Go Go.RowKit Go.Proofs.YtndojpcjhkncgaaGreatDoorW.PrintWords
set_option linter.unusedVariables false
set_option linter.unusedSimpArgs false
theorem B_mid (l : List UInt8) (a b : Nat) : (B l).extract a b = B ((l.drop a).take (b - a)) := by
  unfold B
  apply ByteArray.ext
  simp [ByteArray.data_extract, List.extract]
theorem pieces_l0 (l : List UInt8) (c : UInt8) (hl : l.length ≤ 4398046511104) (d : Nat) : ∀ (i j : Nat) (out : List ByteArray), i + d = l.length → j ≤ i → out.length ≤ i → (∀ x ∈ (l.drop j).take (i - j), x ≠ c) →
    Ev (fun k => annuitantref36_pieces.l0 k (B l) (c.toNat : Int) out (j : Int) (i : Int)) (out ++ (wordsL c (l.drop j)).map B) := by
  induction d with
  | zero =>
    intro i j out hi hj ho hx
    refine Ev.step (fun k => by rw [annuitantref36_pieces.l0]) (Ev.neg (by rw [B_size]; omega) (Ev.pos (by omega) (Ev.pos (by rw [B_size]; omega) (Ev.pos (by omega) (Ev.ret ?_)))))
    have hno : c ∉ l.drop j := by
      rw [List.take_of_length_le (by rw [List.length_drop]; omega)] at hx
      exact fun h => hx c h rfl
    rw [words_one c _ hno, show ((j : Int)).toNat = j from rfl, B_size, B_mid, List.take_of_length_le (Nat.le_of_eq List.length_drop)]
    rfl
  | succ d ih =>
    intro i j out hi hj ho hx
    have hlt : i < l.length := by omega
    refine Ev.step (fun k => by rw [annuitantref36_pieces.l0]) (Ev.pos (by rw [B_size]; omega) (Ev.pos (by omega) ?_))
    rw [B_bt l i hlt, w64 (n := (i : Int) + 1) (by omega) (by omega)]
    by_cases hc : (l[i].toNat : Int) = (c.toNat : Int)
    · have hce : l[i] = c := UInt8.toNat_inj.1 (by omega)
      refine Ev.pos hc (Ev.pos (by omega) (Ev.pos (by omega) (Ev.pos (by rw [B_size]; omega) (Ev.pos (by omega) ?_))))
      refine Ev.eq (ih (i + 1) (i + 1) _ (by omega) (Nat.le_refl _) (by rw [List.length_append]; simp; omega) (by simp)) ?_
      have hsplit : l.drop j = (l.drop j).take (i - j) ++ c :: l.drop (i + 1) := by
        have h1 : (l.drop j).drop (i - j) = l.drop i := by rw [List.drop_drop]; congr 1; omega
        rw [← hce, ← List.drop_eq_getElem_cons hlt, ← h1, List.take_append_drop]
      have hw : wordsL c (l.drop j) = (l.drop j).take (i - j) :: wordsL c (l.drop (i + 1)) := by
        rw [hsplit]
        have h2 : ((l.drop j).take (i - j) ++ c :: l.drop (i + 1)).take (i - j) = (l.drop j).take (i - j) := by rw [← hsplit]
        rw [h2]
        exact words_cat c _ _ (fun h => hx c h rfl)
      rw [hw, List.map_cons, show ((j : Int)).toNat = j from rfl, show ((i : Int)).toNat = i from rfl, B_mid, List.append_assoc]
      rfl
    · refine Ev.neg hc (ih (i + 1) j out (by omega) (by omega) (by omega) ?_)
      intro x hxm
      have h1 : (l.drop j).take (i + 1 - j) = (l.drop j).take (i - j) ++ [l[i]] := by
        rw [show i + 1 - j = (i - j) + 1 by omega, List.take_add_one, List.getElem?_drop, show j + (i - j) = i by omega, List.getElem?_eq_getElem hlt]
        rfl
      rw [h1] at hxm
      rcases List.mem_append.mp hxm with h | h
      · exact hx x h
      · rw [List.mem_singleton.mp h]
        intro e
        rw [e] at hc
        exact hc rfl
theorem pieces_ev (l : List UInt8) (c : UInt8) (hl : l.length ≤ 4398046511104) : Ev (fun k => annuitantref36_pieces.f k (B l) (c.toNat : Int)) ((wordsL c l).map B) := by
  unfold annuitantref36_pieces.f
  exact Ev.eq (pieces_l0 l c hl l.length 0 0 [] (by omega) (Nat.le_refl _) (Nat.le_refl _) (by simp)) (by simp)
theorem hexB_fin : ∀ n : Fin 256, (hexB (UInt8.ofNat n.val) = true ↔ (48 ≤ n.val ∧ n.val ≤ 57) ∨ (97 ≤ n.val ∧ n.val ≤ 102)) := by decide +kernel
theorem hexB_iff (b : UInt8) : hexB b = true ↔ (48 ≤ b.toNat ∧ b.toNat ≤ 57) ∨ (97 ≤ b.toNat ∧ b.toNat ≤ 102) := by
  have h := hexB_fin ⟨b.toNat, b.toNat_lt⟩
  simpa using h
theorem digits_l0 (l : List UInt8) (hl : l.length ≤ 4398046511104) (d : Nat) : ∀ (i : Nat), i + d = l.length → Ev (fun k => annuitantref36_digits.l0 k (B l) (i : Int)) ((l.drop i).all hexB) := by
  induction d with
  | zero =>
    intro i hi
    rw [List.drop_eq_nil_of_le (by omega)]
    show Ev (fun k => annuitantref36_digits.l0 k (B l) (i : Int)) true
    exact Ev.step (fun k => by rw [annuitantref36_digits.l0]) (Ev.neg (by rw [B_size]; omega) (Ev.now true))
  | succ d ih =>
    intro i hi
    have hlt : i < l.length := by omega
    have hx := hexB_iff l[i]
    rw [drop_get l i hlt, List.all_cons]
    refine Ev.step (fun k => by rw [annuitantref36_digits.l0]) (Ev.pos (by rw [B_size]; omega) (Ev.pos (by omega) ?_))
    rw [B_bt l i hlt, w64 (n := (i : Int) + 1) (by omega) (by omega)]
    have hbad : ¬ ((48 ≤ l[i].toNat ∧ l[i].toNat ≤ 57) ∨ (97 ≤ l[i].toNat ∧ l[i].toNat ≤ 102)) → hexB l[i] = false := fun h => by
      cases hh : hexB l[i] with
      | false => rfl
      | true => exact absurd (hx.mp hh) h
    have hgood : ((48 ≤ l[i].toNat ∧ l[i].toNat ≤ 57) ∨ (97 ≤ l[i].toNat ∧ l[i].toNat ≤ 102)) → Ev (fun k => annuitantref36_digits.l0 k (B l) ((i : Int) + 1)) (hexB l[i] && (l.drop (i + 1)).all hexB) := fun h => by
      rw [hx.mpr h, Bool.true_and]
      exact ih (i + 1) (by omega)
    by_cases h1 : (l[i].toNat : Int) < 48
    · refine Ev.pos h1 ?_
      rw [hbad (by omega), Bool.false_and]
      exact Ev.pos (by omega) (Ev.now false)
    · refine Ev.neg h1 ?_
      by_cases h2 : (l[i].toNat : Int) > 57
      · refine Ev.pos h2 ?_
        by_cases h3 : (l[i].toNat : Int) < 97
        · rw [hbad (by omega), Bool.false_and]
          exact Ev.pos h3 (Ev.now false)
        · refine Ev.neg h3 ?_
          by_cases h4 : (l[i].toNat : Int) > 102
          · rw [hbad (by omega), Bool.false_and]
            exact Ev.pos h4 (Ev.now false)
          · exact Ev.neg h4 (hgood (by omega))
      · exact Ev.neg h2 (hgood (by omega))
theorem digits_ev (l : List UInt8) (hl : l.length ≤ 4398046511104) : Ev (fun k => annuitantref36_digits.f k (B l)) (l.all hexB) := by
  unfold annuitantref36_digits.f
  exact digits_l0 l hl l.length 0 (by omega)
def valF : List UInt8 → Nat → Nat
  | [], a => a
  | c :: l, a => valF l (if c = 45 then a else 10 * a + (c.toNat - 48))
def signByte (c : UInt8) : Bool := decide (c = 45) || (decide (48 ≤ c.toNat) && decide (c.toNat ≤ 57))
theorem valF_append : ∀ (a b : List UInt8) (n : Nat), valF (a ++ b) n = valF b (valF a n)
  | [], b, n => rfl
  | c :: a, b, n => by rw [List.cons_append, valF, valF, valF_append a b]
theorem valF_dec (u : Nat) : valF (Lib.decDigits u) 0 = u := by
  induction u using Nat.strongRecOn with
  | ind u ih =>
    have one : ∀ d a, d < 10 → valF [UInt8.ofNat (48 + d)] a = 10 * a + d := by
      intro d a hd
      have h1 := digit_nat d hd
      have h2 : UInt8.ofNat (48 + d) ≠ 45 := fun e => by
        have : (UInt8.ofNat (48 + d)).toNat = 45 := by rw [e]; rfl
        omega
      rw [valF, if_neg h2, valF, h1]
      omega
    by_cases h : u < 10
    · rw [dec_small u h, one u 0 h]
      omega
    · rw [dec_big u h, valF_append, ih (u / 10) (by omega), one _ _ (by omega)]
      omega
theorem valF_lt : ∀ (l : List UInt8) (a : Nat), (∀ c ∈ l, signByte c = true) → valF l a < (a + 1) * 10 ^ l.length
  | [], a, _ => by simp [valF]
  | c :: l, a, h => by
    rw [valF]
    have h1 := valF_lt l (if c = 45 then a else 10 * a + (c.toNat - 48)) (fun x hx => h x (List.mem_cons_of_mem _ hx))
    have h2 := h c List.mem_cons_self
    unfold signByte at h2
    have h3 : (if c = 45 then a else 10 * a + (c.toNat - 48)) + 1 ≤ (a + 1) * 10 := by
      by_cases hc : c = 45
      · rw [if_pos hc]; omega
      · rw [if_neg hc]
        rw [decide_eq_false hc, Bool.false_or, Bool.and_eq_true, decide_eq_true_iff, decide_eq_true_iff] at h2
        omega
    calc valF l _ < (_ + 1) * 10 ^ l.length := h1
      _ ≤ ((a + 1) * 10) * 10 ^ l.length := Nat.mul_le_mul_right _ h3
      _ = (a + 1) * 10 ^ (c :: l).length := by rw [List.length_cons, Nat.pow_succ, Nat.mul_assoc, Nat.mul_comm 10]
def wordN (x : List UInt8) : Int := if x.head? = some 45 then -(valF x 0 : Int) else (valF x 0 : Int)
def wordR (x : List UInt8) : Option Int := if x.length ≤ 14 ∧ x.all signByte = true ∧ numIn (wordN x) = true ∧ Lib.itoa (wordN x) = x then some (wordN x) else none
theorem itoa_len14 (v : Int) (h : numIn v = true) : (Lib.itoa v).length ≤ 14 := by
  obtain ⟨h1, h2⟩ := (numIn_iff v).mp h
  have hd : ∀ (n u : Nat), u < 10 ^ (n + 1) → (Lib.decDigits u).length ≤ n + 1 := by
    intro n
    induction n with
    | zero => intro u hu; rw [dec_small u (by omega)]; exact Nat.le_refl _
    | succ n ih =>
      intro u hu
      by_cases h : u < 10
      · rw [dec_small u h]; simp
      · rw [dec_big u h, List.length_append, List.length_singleton]
        have := ih (u / 10) (by rw [Nat.pow_succ] at hu; omega)
        omega
  have h13 : ∀ u : Nat, u ≤ 1099511627776 → (Lib.decDigits u).length ≤ 13 := fun u hu => hd 12 u (by omega)
  unfold Lib.itoa
  split
  · rw [List.length_cons]
    have := h13 v.natAbs (by omega)
    omega
  · have := h13 v.toNat (by omega)
    omega
theorem wordN_itoa (v : Int) : wordN (Lib.itoa v) = v := by
  unfold wordN Lib.itoa
  by_cases h : v < 0
  · rw [if_pos h]
    rw [if_pos (show (45 :: Lib.decDigits v.natAbs).head? = some 45 from rfl), valF, if_pos rfl, valF_dec]
    omega
  · rw [if_neg h]
    obtain ⟨c, r, hc, h3, h4⟩ := dec_head v.toNat
    rw [if_neg (by rw [hc]; intro e; injection e with e; rw [e] at h3; exact absurd h3 (by decide)), valF_dec]
    omega
theorem wordR_eq (x : List UInt8) : wordR x = if (numF x).2 = true then some (numF x).1 else none := by
  by_cases h : (numF x).2 = true
  · obtain ⟨h1, h2⟩ := numF_true x h
    rw [if_pos h]
    have hw : wordN x = (numF x).1 := by rw [← h2, wordN_itoa, h2]
    unfold wordR
    rw [if_pos, hw]
    refine ⟨?_, ?_, by rw [hw]; exact h1, by rw [hw]; exact h2⟩
    · rw [← h2]; exact itoa_len14 _ h1
    · rw [← h2, List.all_eq_true]
      intro c hc
      unfold signByte
      rcases itoa_all _ c hc with e | e
      · rw [e]; rfl
      · rw [decide_eq_true e.1, decide_eq_true e.2]; simp
  · rw [if_neg h]
    unfold wordR
    rw [if_neg]
    rintro ⟨_, _, h3, h4⟩
    have := numF_itoa _ h3
    rw [h4] at this
    exact h (by rw [this])
theorem flatL_le' (c : UInt8) : ∀ l : List UInt8, (wordsL c l).length ≤ l.length + 1
  | [] => by simp [wordsL]
  | b :: l => by
    have h := flatL_le' c l
    rw [wordsL]
    split
    · rw [List.length_cons, List.length_cons]
      omega
    · obtain ⟨a, t, hx⟩ := words_ne c l
      rw [hx] at h ⊢
      rw [List.length_cons] at h ⊢
      rw [List.length_cons]
      omega
theorem rdB (ws : List (List UInt8)) (i : Nat) (h : i < ws.length) : rdOf ByteArray.empty (ws.map B) (i : Int) = B ws[i] := by
  unfold rdOf
  simp [h]
theorem pow14 (x : List UInt8) (p : Nat) (hp : p ≤ 14) (h : (x.take p).all signByte = true) : valF (x.take p) 0 < 100000000000000 := by
  have h1 := valF_lt (x.take p) 0 (fun c hc => List.all_eq_true.mp h c hc)
  have h2 : (x.take p).length ≤ 14 := by rw [List.length_take]; omega
  have h3 : 10 ^ (x.take p).length ≤ 10 ^ 14 := Nat.pow_le_pow_right (by omega) h2
  have h4 : (10 : Nat) ^ 14 = 100000000000000 := by decide
  omega
theorem word_j4 (ws : List (List UInt8)) (hws : ws.length ≤ 4398046511104) (out : List Int) (ho : out.length ≤ ws.length) (i : Nat) (hi : i < ws.length) (RES : List Int × Bool) (s : Bool) (v : Nat) (hv : v < 100000000000000) (hN : wordN ws[i] = if s = true then -(v : Int) else (v : Int))
    (hgood : numIn (wordN ws[i]) = true → Lib.itoa (wordN ws[i]) = ws[i] → Ev (fun k => annuitantref36_numbers.l0 k (ws.map B) (out ++ [wordN ws[i]]) ((i : Int) + 1)) RES)
    (hbad : ¬ (numIn (wordN ws[i]) = true ∧ Lib.itoa (wordN ws[i]) = ws[i]) → RES = ([], false)) :
    Ev (fun k => annuitantref36_numbers.j4 k (ws.map B) out (i : Int) (v : Int) s) RES := by
  have hio := numIn_iff (wordN ws[i])
  have hrest : -1099511627776 ≤ wordN ws[i] → wordN ws[i] ≤ 1099511627776 → Ev (fun k => (annuitantref36_decimal.f k (wordN ws[i])).bind fun t270 => (if 0 ≤ (i : Int) then (if (i : Int) < ((ws.map B).length : Int) then (if t270.toList = (rdOf ByteArray.empty (ws.map B) (i : Int)).toList then (if out.length < 17592186044416 then (annuitantref36_numbers.l0 k (ws.map B) (out ++ [wordN ws[i]]) (wrap64 ((i : Int) + 1))) else (none)) else (some (([] : List Int), false))) else (none)) else (none))) RES := by
    intro h1 h2
    refine Ev.bind (decimal_ev _ (by omega) (by omega)) (Ev.pos (by omega) (Ev.pos (by rw [List.length_map]; omega) ?_))
    rw [rdB ws i hi, B_list, B_list, w64 (n := (i : Int) + 1) (by omega) (by omega)]
    by_cases he : Lib.itoa (wordN ws[i]) = ws[i]
    · exact Ev.pos he (Ev.pos (by omega) (hgood (hio.mpr ⟨h1, h2⟩) he))
    · exact Ev.neg he (Ev.ret (hbad (fun h => he h.2)).symm)
  refine Ev.step (fun k => by rw [annuitantref36_numbers.j4]) ?_
  cases s with
  | true =>
    rw [if_pos rfl] at hN
    refine Ev.pos rfl ?_
    rw [w64 (n := -(v : Int)) (by omega) (by omega), ← hN]
    by_cases h1 : wordN ws[i] < -1099511627776
    · exact Ev.pos h1 (Ev.ret (hbad (fun h => by have := hio.mp h.1; omega)).symm)
    refine Ev.neg h1 ?_
    by_cases h2 : wordN ws[i] > 1099511627776
    · exact Ev.pos h2 (Ev.ret (hbad (fun h => by have := hio.mp h.1; omega)).symm)
    exact Ev.neg h2 (hrest (by omega) (by omega))
  | false =>
    rw [if_neg (by simp)] at hN
    refine Ev.neg (by simp) ?_
    rw [← hN]
    by_cases h1 : wordN ws[i] < -1099511627776
    · exact Ev.pos h1 (Ev.ret (hbad (fun h => by have := hio.mp h.1; omega)).symm)
    refine Ev.neg h1 ?_
    by_cases h2 : wordN ws[i] > 1099511627776
    · exact Ev.pos h2 (Ev.ret (hbad (fun h => by have := hio.mp h.1; omega)).symm)
    exact Ev.neg h2 (hrest (by omega) (by omega))
theorem word_l1 (ws : List (List UInt8)) (hws : ws.length ≤ 4398046511104) (out : List Int) (ho : out.length ≤ ws.length) (i : Nat) (hi : i < ws.length) (hx : ws[i].length ≤ 4398046511104) (RES : List Int × Bool)
    (hgood : ∀ v, wordR ws[i] = some v → Ev (fun k => annuitantref36_numbers.l0 k (ws.map B) (out ++ [v]) ((i : Int) + 1)) RES) (hbad : wordR ws[i] = none → RES = ([], false)) (d : Nat) :
    ∀ (p : Nat), p + d = ws[i].length → p ≤ 14 → (ws[i].take p).all signByte = true → Ev (fun k => annuitantref36_numbers.l1 k (ws.map B) out (i : Int) (valF (ws[i].take p) 0 : Int) (p : Int)) RES := by
  induction d with
  | zero =>
    intro p hp h14 hall
    have hv := pow14 ws[i] p h14 hall
    have hfull : ws[i].take p = ws[i] := List.take_of_length_le (by omega)
    rw [hfull] at hall hv ⊢
    refine Ev.step (fun k => by rw [annuitantref36_numbers.l1]) (Ev.pos (by omega) (Ev.pos (by rw [List.length_map]; omega) ?_))
    rw [rdB ws i hi]
    have hg : numIn (wordN ws[i]) = true → Lib.itoa (wordN ws[i]) = ws[i] → Ev (fun k => annuitantref36_numbers.l0 k (ws.map B) (out ++ [wordN ws[i]]) ((i : Int) + 1)) RES := fun h1 h2 => hgood _ (by unfold wordR; rw [if_pos ⟨by omega, hall, h1, h2⟩])
    have hb : ¬ (numIn (wordN ws[i]) = true ∧ Lib.itoa (wordN ws[i]) = ws[i]) → RES = ([], false) := fun h => hbad (by unfold wordR; rw [if_neg (fun hh => h ⟨hh.2.2.1, hh.2.2.2⟩)])
    refine Ev.neg (by rw [B_size]; omega) ?_
    by_cases h0 : ws[i].length = 0
    · have hnil : ws[i] = [] := List.eq_nil_of_length_eq_zero h0
      refine Ev.neg (by rw [B_size, h0]; omega) ?_
      exact word_j4 ws hws out ho i hi RES false _ hv (by rw [if_neg (by simp)]; unfold wordN; rw [if_neg (by rw [hnil]; simp)]) hg hb
    · refine Ev.pos (by rw [B_size]; omega) (Ev.pos (by rw [B_size]; omega) ?_)
      have h00 : bt (B ws[i]) 0 = (ws[i][0].toNat : Int) := B_bt ws[i] 0 (by omega)
      rw [h00]
      refine word_j4 ws hws out ho i hi RES _ _ hv ?_ hg hb
      unfold wordN
      have hh : ws[i].head? = some ws[i][0] := by rw [List.head?_eq_getElem?, List.getElem?_eq_getElem (by omega)]
      rw [hh]
      by_cases e : ws[i][0] = 45
      · rw [if_pos (by rw [e]), if_pos (by rw [e]; rfl)]
      · rw [if_neg (fun h => e (Option.some.inj h)), if_neg (by
          intro h
          rw [beq_iff_eq] at h
          exact e (UInt8.toNat_inj.1 (by show ws[i][0].toNat = 45; omega)))]
  | succ d ih =>
    intro p hp h14 hall
    have hv := pow14 ws[i] p h14 hall
    have hlt : p < ws[i].length := by omega
    have hfail : (p > 13 ∨ signByte ws[i][p] = false) → RES = ([], false) := fun h => hbad (by
      unfold wordR
      rw [if_neg]
      rintro ⟨h1, h2, _⟩
      rcases h with h | h
      · omega
      · have := List.all_eq_true.mp h2 _ (List.getElem_mem hlt)
        rw [h] at this
        cases this)
    have hstop : (p > 13 ∨ signByte ws[i][p] = false) → Ev (fun k => annuitantref36_numbers.j3 k (ws.map B) out (i : Int) (valF (ws[i].take p) 0 : Int) (p : Int) true) RES := fun h =>
      Ev.step (fun k => by rw [annuitantref36_numbers.j3]) (Ev.pos rfl (Ev.ret (hfail h).symm))
    have htake : ws[i].take (p + 1) = ws[i].take p ++ [ws[i][p]] := by rw [List.take_add_one, List.getElem?_eq_getElem hlt]; rfl
    have hgo : p ≤ 13 → signByte ws[i][p] = true → Ev (fun k => annuitantref36_numbers.j3 k (ws.map B) out (i : Int) (valF (ws[i].take p) 0 : Int) (p : Int) false) RES := fun h13 hs => by
      have hnext := ih (p + 1) (by omega) (by omega) (by rw [htake, List.all_append, hall]; simpa using hs)
      rw [htake, valF_append] at hnext
      refine Ev.step (fun k => by rw [annuitantref36_numbers.j3]) (Ev.neg (by simp) (Ev.pos (by omega) (Ev.pos (by rw [List.length_map]; omega) (Ev.pos (by omega) ?_))))
      rw [rdB ws i hi, B_bt ws[i] p hlt, w64 (n := (p : Int) + 1) (by omega) (by omega)]
      refine Ev.pos (by rw [B_size]; omega) ?_
      by_cases e : ws[i][p] = 45
      · refine Ev.pos (by rw [e]; rfl) ?_
        rw [valF, if_pos e, valF] at hnext
        exact hnext
      · refine Ev.neg (by intro h; exact e (UInt8.toNat_inj.1 (by show ws[i][p].toNat = 45; omega))) ?_
        rw [valF, if_neg e, valF] at hnext
        unfold signByte at hs
        rw [decide_eq_false e, Bool.false_or, Bool.and_eq_true, decide_eq_true_iff, decide_eq_true_iff] at hs
        rw [w64 (n := 10 * (valF (ws[i].take p) 0 : Int)) (by omega) (by omega), w64 (by omega) (by omega), show 10 * (valF (ws[i].take p) 0 : Int) + ((ws[i][p].toNat : Int) - 48) % 256 = ((10 * valF (ws[i].take p) 0 + (ws[i][p].toNat - 48) : Nat) : Int) by omega]
        exact hnext
    refine Ev.step (fun k => by rw [annuitantref36_numbers.l1]) (Ev.pos (by omega) (Ev.pos (by rw [List.length_map]; omega) ?_))
    rw [rdB ws i hi]
    refine Ev.pos (by rw [B_size]; omega) ?_
    rw [B_bt ws[i] p hlt]
    by_cases h13 : (p : Int) > 13
    · exact Ev.pos h13 (hstop (.inl (by omega)))
    refine Ev.neg h13 (Ev.pos (by omega) ?_)
    by_cases e : (ws[i][p].toNat : Int) = 45
    · exact Ev.pos e (hgo (by omega) (by unfold signByte; rw [show ws[i][p] = 45 from UInt8.toNat_inj.1 (by show ws[i][p].toNat = 45; omega)]; rfl))
    refine Ev.neg e ?_
    have hne : ws[i][p] ≠ 45 := fun h => e (by rw [h]; rfl)
    by_cases h48 : (ws[i][p].toNat : Int) < 48
    · exact Ev.pos h48 (hstop (.inr (by unfold signByte; rw [decide_eq_false hne, decide_eq_false (by omega)]; rfl)))
    refine Ev.neg h48 ?_
    by_cases h57 : (ws[i][p].toNat : Int) > 57
    · rw [decide_eq_true h57]
      exact hstop (.inr (by unfold signByte; rw [decide_eq_false hne, decide_eq_false (p := ws[i][p].toNat ≤ 57) (by omega)]; simp))
    · rw [decide_eq_false h57]
      exact hgo (by omega) (by unfold signByte; rw [decide_eq_true (p := 48 ≤ ws[i][p].toNat) (by omega), decide_eq_true (p := ws[i][p].toNat ≤ 57) (by omega)]; simp)
theorem numbers_l0 (ws : List (List UInt8)) (hws : ws.length ≤ 4398046511104) (hx : ∀ x ∈ ws, x.length ≤ 4398046511104) (d : Nat) : ∀ (i : Nat) (out : List Int), i + d = ws.length → out.length ≤ i →
    Ev (fun k => annuitantref36_numbers.l0 k (ws.map B) out (i : Int)) (match numsOf (ws.drop i) with | some ns => (out ++ ns, true) | none => ([], false)) := by
  induction d with
  | zero =>
    intro i out hi ho
    rw [List.drop_eq_nil_of_le (by omega)]
    exact Ev.step (fun k => by rw [annuitantref36_numbers.l0]) (Ev.neg (by rw [List.length_map]; omega) (Ev.ret (by simp [numsOf])))
  | succ d ih =>
    intro i out hi ho
    have hlt : i < ws.length := by omega
    refine Ev.step (fun k => by rw [annuitantref36_numbers.l0]) (Ev.pos (by rw [List.length_map]; omega) ?_)
    have hw := wordR_eq ws[i]
    have h := word_l1 ws hws out (by omega) i hlt (hx _ (List.getElem_mem hlt)) (match numsOf (ws.drop i) with | some ns => (out ++ ns, true) | none => ([], false)) ?_ ?_ ws[i].length 0 (by omega) (by omega) rfl
    · exact h
    · intro v hv
      have h2 := ih (i + 1) (out ++ [v]) (by omega) (by rw [List.length_append]; simp; omega)
      rw [hw] at hv
      by_cases hn : (numF ws[i]).2 = true
      · rw [if_pos hn] at hv
        refine Ev.eq h2 ?_
        rw [drop_get ws i hlt, numsOf, if_pos hn]
        cases numsOf (ws.drop (i + 1)) with
        | none => rfl
        | some ns =>
          rw [Option.some.inj hv]
          simp
      · rw [if_neg hn] at hv
        cases hv
    · intro hv
      rw [hw] at hv
      by_cases hn : (numF ws[i]).2 = true
      · rw [if_pos hn] at hv
        cases hv
      · rw [drop_get ws i hlt, numsOf, if_neg hn]
theorem numbers_ev (l word : List UInt8) (m : Nat) (hl : l.length ≤ 1048576) (hm : m ≤ 100) : Ev (fun k => annuitantref36_numbers.f k (B l) (B word) (m : Int)) (match scanF l word m with | some ns => (ns, true) | none => ([], false)) := by
  obtain ⟨w, ws, hw⟩ := words_ne 32 l
  have hlen : (w :: ws).length ≤ l.length + 1 := by
    have h1 := flatL_le' 32 l
    rw [hw] at h1
    exact h1
  unfold annuitantref36_numbers.f
  refine Ev.bind (pieces_ev l 32 (by omega)) ?_
  rw [hw]
  refine Ev.pos (by rw [List.length_map, List.length_cons]; omega) ?_
  have h0 : rdOf ByteArray.empty ((w :: ws).map B) 0 = B w := rdB (w :: ws) 0 (by simp)
  rw [h0, B_list, B_list]
  have hj : ∀ b : Bool, (b = true → scanF l word m = none) → (b = false → scanF l word m = numsOf ws) → Ev (fun k => annuitantref36_numbers.j0 k ((w :: ws).map B) b) (match scanF l word m with | some ns => (ns, true) | none => ([], false)) := by
    intro b h1 h2
    refine Ev.step (fun k => by rw [annuitantref36_numbers.j0]) ?_
    cases b with
    | true =>
      rw [h1 rfl]
      exact Ev.pos rfl (Ev.ret rfl)
    | false =>
      rw [h2 rfl]
      refine Ev.neg (by simp) ?_
      have h := numbers_l0 (w :: ws) (by omega) (fun x hx => by
        have := wordsL_len 32 l x (by rw [hw]; exact hx)
        omega) ws.length 1 [] (by rw [List.length_cons]; omega) (by simp)
      refine Ev.eq h ?_
      show (match numsOf ws with | some ns => ([] ++ ns, true) | none => ([], false)) = _
      cases numsOf ws <;> rfl
  have hsc : scanF l word m = if w = word ∧ ws.length = m then numsOf ws else none := by
    unfold scanF
    rw [hw]
  by_cases he : w = word
  · refine Ev.pos he ?_
    rw [List.length_map, List.length_cons, w64 (n := (m : Int) + 1) (by omega) (by omega)]
    refine hj _ (fun h => ?_) (fun h => ?_)
    · rw [hsc, if_neg]
      rintro ⟨_, h2⟩
      rw [h2] at h
      simp at h
    · rw [hsc, if_pos]
      refine ⟨he, ?_⟩
      have : ((ws.length + 1 : Nat) : Int) = (m : Int) + 1 := by simpa using h
      omega
  · refine Ev.neg he (hj true (fun _ => ?_) (fun h => by cases h))
    rw [hsc, if_neg (fun h => he h.1)]
end Go.Proofs.YtndojpcjhkncgaaGreatDoor.Q
end

section
namespace Go.Proofs.YtndojpcjhkncgaaGreatDoor.Q
open Go Go.RowKit Go.Shelf Go.Proofs.YtndojpcjhkncgaaGreatDoorW.PrintWords
set_option linter.unusedVariables false
set_option linter.unusedSimpArgs false
def bodyPostX {α : Type} (D : Nat) (Kp : World → World → Prop) (I Ix : List α → World → Prop) (xs : List α) (W : World) : Exit → Act → World → Prop
  | .normal, _, W' => (∀ k, k = D ∨ k = D + 1 → W'.heap[k]? = W.heap[k]?) ∧ Kp W W' ∧ I xs W'
  | .ret, _, W' => (∀ k, k = D ∨ k = D + 1 → W'.heap[k]? = W.heap[k]?) ∧ Kp W W' ∧ Ix xs W'
  | _, _, _ => False
theorem range_law {α : Type} {P : Program} {n : Nat} {g : Operand} {ps : Array Tmp} {assign body : Code} {Q : Exit → Act → World → Prop} {a : Act} {w : World}
    {gf : Nat} {lb : Array Value} (hg : a.eval g = .func (.func gf) #[] lb) (eg : ∀ args w, (callFunc gf args).run P w = .ok (.enter gf args) w)
    (encs : α → Array Value) (hps : ∀ x, (encs x).size = ps.size) (Nx : List α → α → Prop) (Fin : List α → Prop) (Ex : World → Prop) (St Kp : World → World → Prop)
    (hseq : ∀ (J Jx : List α → World → Prop) (W : World), Below w.heap.size w W → W.heap.size = w.heap.size + 2 → (∀ pre A B, J pre A → St A B → J pre B) → (∀ pre A B, Jx pre A → St A B → Jx pre B) →
      (∀ pre x W1, Nx pre x → J pre W1 → Ex W1 → YieldAt Fence.wide (n - 1 - 1) P (w.heap.size + 1) (encs x) W1 fun e W' => (e = .returned (.bool true) ∧ J (pre ++ [x]) W' ∧ Kp W1 W') ∨ (e = .returned (.bool false) ∧ Jx (pre ++ [x]) W' ∧ Kp W1 W')) →
      J [] W → CallsIn Fence.wide (n - 1) P gf (#[.func (.yield (w.heap.size + 1)) #[] #[]] ++ lb) W fun e W' => (∃ v, e = .returned v) ∧ ((∃ xs, Fin xs ∧ J xs W') ∨ ∃ pre, Jx pre W'))
    (hSt : ∀ A B, St A B → ∀ k, k = w.heap.size ∨ k = w.heap.size + 1 → B.heap[k]? = A.heap[k]?)
    (hKt : ∀ A B C, Kp A B → Kp B C → Kp A C) (hKr : ∀ W o, Kp W (W.putObj (w.heap.size + 1) o))
    (hEx : ∀ W o, Ex W → Ex (W.putObj (w.heap.size + 1) o))
    (I Ix : List α → World → Prop) (hI0 : ∀ W, Below w.heap.size w W → W.heap.size = w.heap.size + 2 → I [] W) (hIs : ∀ pre A B, I pre A → St A B → I pre B) (hXs : ∀ pre A B, Ix pre A → St A B → Ix pre B)
    (hIr : ∀ pre W o, I pre W → I pre (W.putObj (w.heap.size + 1) o)) (hXr : ∀ pre W o, Ix pre W → Ix pre (W.putObj (w.heap.size + 1) o))
    (a₁ : α → Act)
    (hassign : ∀ (x : α) (W : World) (K : Act → World → Prop), K (a₁ x) W →
      assign.wpIn (Fence.wide.inRound (w.heap.size + 1)) (n - 1 - 1) P (Exit.then K (fun _ _ _ => False)) { tmps := (ps.zip (encs x)).foldl (fun t (p, v) => t.setIfInBounds p v) a.tmps, defers := [] } W)
    (hbody : ∀ (pre : List α) (x : α) (W : World), Nx pre x → I pre W → Ex W → w.heap.size + 1 < W.heap.size → body.wpIn (Fence.wide.inRound (w.heap.size + 1)) (n - 1 - 1) P (bodyPostX w.heap.size Kp I Ix (pre ++ [x]) W) (a₁ x) W)
    (hdone : ∀ (xs : List α) (W : World), Fin xs → I xs W → W.heap[w.heap.size]? = some (.deferred (some [])) → Q .normal { a with defers := { target := .collected w.heap.size, args := #[] } :: a.defers } W)
    (hstop : ∀ (pre : List α) (W : World), Ix pre W → W.heap[w.heap.size]? = some (.deferred (some [])) → Code.ret.wpIn Fence.wide n P Q { a with defers := { target := .collected w.heap.size, args := #[] } :: a.defers } W) :
    (Code.rangeFunc g ps assign body).wpIn Fence.wide n P Q a w := by
  refine wpIn_rangeFunc ?_
  intro fn hfn
  obtain ⟨book, hbook⟩ : ∃ book : LoopState → Option Code → Loop, book = fun st pe => { state := st, pending := pe, fn, tmps := a.tmps, params := ps, assign, body, defers := w.heap.size } := ⟨_, rfl⟩
  obtain ⟨W1, hW1⟩ : ∃ W1, (w.alloc (.deferred (some []))).alloc (.loop (book .ready none)) = W1 := ⟨_, rfl⟩
  have hBk : W1.heap[w.heap.size + 1]? = some (.loop (book .ready none)) := by
    have h := World.alloc_heap_new (w.alloc (.deferred (some []))) (.loop (book .ready none))
    rw [World.size_alloc] at h
    rw [← hW1]; exact h
  have hDf : W1.heap[w.heap.size]? = some (.deferred (some [])) := by
    rw [← hW1]; exact (Below.heap_alloc _ _ _ (by simp)).trans (World.alloc_heap_new w _)
  have hlow : Below w.heap.size w W1 := by rw [← hW1]; exact ((Below.refl _ w).alloc (Nat.le_refl _) _).alloc (by simp) _
  have hsz : W1.heap.size = w.heap.size + 2 := by rw [← hW1]; simp
  refine ⟨w.heap.size + 1, [{ target := .collected w.heap.size, args := #[] }], W1, { target := .fn (.func gf) lb, args := #[.func (.yield (w.heap.size + 1)) #[] #[]] }, W1, gf,
    #[.func (.yield (w.heap.size + 1)) #[] #[]] ++ lb, W1, ?_, ?_, fun _ _ => trivial, ?_, (fun h => by cases h), ?_⟩
  · rw [← hW1, hbook]; exact run_enterLoop_outer _ _ _ _ _
  · simp only [resolve, hg]
    simp [go_sem]
  · simp [invoke, go_sem, eg]
  · refine (hseq (fun pre W => I pre W ∧ W.heap[w.heap.size + 1]? = some (.loop (book .ready none)) ∧ W.heap[w.heap.size]? = some (.deferred (some [])))
      (fun pre W => Ix pre W ∧ W.heap[w.heap.size + 1]? = some (.loop (book .done (some .ret))) ∧ W.heap[w.heap.size]? = some (.deferred (some [])))
      W1 hlow hsz (fun pre A B h hs => ⟨hIs pre A B h.1 hs, (hSt A B hs _ (.inr rfl)).trans h.2.1, (hSt A B hs _ (.inl rfl)).trans h.2.2⟩) (fun pre A B h hs => ⟨hXs pre A B h.1 hs, (hSt A B hs _ (.inr rfl)).trans h.2.1, (hSt A B hs _ (.inl rfl)).trans h.2.2⟩) ?_ ⟨hI0 W1 hlow hsz, hBk, hDf⟩).mono ?_
    · rintro pre x W hN ⟨hi, hl, hk⟩ hE
      have hlt : w.heap.size + 1 < W.heap.size := (Array.getElem?_eq_some_iff.1 hl).1
      have hy := run_yield (P := P) (args := encs x) hl (by rw [hbook]; exact hps x)
      rw [hbook] at hy
      refine ⟨fn, _, assign, body, hy, roundIn_of_wpIn hfn (hassign x W _ ⟨_, run_beginRound hl (by rw [hbook]), ?_⟩)⟩
      have l2 : (W.putObj (w.heap.size + 1) (.loop { book .ready none with state := .busy })).heap[w.heap.size + 1]? = some (.loop { book .ready none with state := .busy }) := World.putObj_heap_same hlt
      have d2 : (W.putObj (w.heap.size + 1) (.loop { book .ready none with state := .busy })).heap[w.heap.size]? = some (.deferred (some [])) := (World.putObj_heap_other (by omega)).trans hk
      refine wpIn_mono (hbody pre x _ hN (hIr _ _ _ hi) (hEx _ _ hE) (by simpa using hlt)) ?_
      have fin : ∀ (jump : Option Code) (W3 : World), (∀ k, k = w.heap.size ∨ k = w.heap.size + 1 → W3.heap[k]? = (W.putObj (w.heap.size + 1) (.loop { book .ready none with state := .busy })).heap[k]?) →
          (Instr.endRound (w.heap.size + 1) jump).run P W3 = .ok (.bool jump.isNone) (W3.putObj (w.heap.size + 1) (.loop (book (if jump.isNone then .ready else .done) jump))) ∧
          (W3.putObj (w.heap.size + 1) (.loop (book (if jump.isNone then .ready else .done) jump))).heap[w.heap.size + 1]? = some (.loop (book (if jump.isNone then .ready else .done) jump)) ∧
          (W3.putObj (w.heap.size + 1) (.loop (book (if jump.isNone then .ready else .done) jump))).heap[w.heap.size]? = some (.deferred (some [])) := fun jump W3 hs => by
        have l3 := (hs _ (.inr rfl)).trans l2
        have hr := run_endRound (P := P) jump l3
        rw [hbook] at hr ⊢
        exact ⟨hr, World.putObj_heap_same (Array.getElem?_eq_some_iff.1 l3).1, (World.putObj_heap_other (by omega)).trans ((hs _ (.inl rfl)).trans d2)⟩
      rintro e a3 W3 hp
      cases e with
      | normal =>
        obtain ⟨h1, h2, h3⟩ := hp
        obtain ⟨hr, l4, d4⟩ := fin none W3 h1
        exact ⟨_, _, hr, .inl ⟨rfl, ⟨hIr _ _ _ h3, l4, d4⟩, hKt _ _ _ (hKt _ _ _ (hKr _ _) h2) (hKr _ _)⟩⟩
      | ret =>
        obtain ⟨h1, h2, h3⟩ := hp
        obtain ⟨hr, l4, d4⟩ := fin (some .ret) W3 h1
        exact ⟨_, _, hr, .inr ⟨rfl, ⟨hXr _ _ _ h3, l4, d4⟩, hKt _ _ _ (hKt _ _ _ (hKr _ _) h2) (hKr _ _)⟩⟩
      | exit id => exact hp.elim
      | goto t => exact hp.elim
      | panic ch => exact hp.elim
      | outgrown => exact hp.elim
    · rintro e W2 ⟨⟨v, rfl⟩, (⟨xs, hS, hi, hl, hk⟩ | ⟨pre, hi, hl, hk⟩)⟩
      · exact ⟨none, _, by have h := run_endLoop (P := P) hl (by rw [hbook]; simp); rw [hbook] at h; exact h, hdone xs _ hS (hIr _ _ _ hi) ((World.putObj_heap_other (by omega)).trans hk)⟩
      · exact ⟨some .ret, _, by have h := run_endLoop (P := P) hl (by rw [hbook]; simp); rw [hbook] at h; exact h, hstop pre _ (hXr _ _ _ hi) ((World.putObj_heap_other (by omega)).trans hk)⟩
end Go.Proofs.YtndojpcjhkncgaaGreatDoor.Q
end

section
namespace Go.Proofs.YtndojpcjhkncgaaGreatDoor.Q
open Go Go.RowKit Go.Shelf Go.Proofs.YtndojpcjhkncgaaGreatDoorW.PrintWords
attribute [local go_sem] Oper.semAt_some
set_option linter.unusedVariables false
set_option linter.unusedSimpArgs false
theorem yield_any {P : Program} {m m' l : Nat} {args : Array Value} {W : World} {R : Ending → World → Prop} (h : YieldAt Fence.wide m P l args W R) : YieldAt Fence.wide m' P l args W R := by
  obtain ⟨fn, tmps, assign, body, hy, hR⟩ := h
  exact ⟨fn, tmps, assign, body, hy, hR.1, fun c cs _ => hR.2 c cs (room_wide _)⟩
theorem lines_make (s : ByteArray) (w : World) : Calls Tryz.prog 77 #[.string s] w fun e w' => e = .returned (.func (.func 92) #[] #[.pointer (some ⟨w.heap.size, 0, none⟩)]) ∧ w' = w.alloc (.cells #[.string s] 9 (0, 0)) := by
  go_enter Tryz.func77, Tryz.ntmps77
  go_wp2
  go_ret
  exact ⟨rfl, rfl⟩
structure OutR (B0 B1 : Nat) (A B : World) : Prop where
  os : B.os = A.os
  tape : B.tape = A.tape
  output : B.output = A.output
  size : A.heap.size ≤ B.heap.size
  same : ∀ k, k < B0 ∨ B1 ≤ k → B.heap[k]? = A.heap[k]?
theorem OutR.set (B0 B1 : Nat) (W : World) (b j : Nat) (v : Value) (h0 : B0 ≤ b) (h1 : b < B1) : OutR B0 B1 W (W.setCell ⟨b, j, none⟩ v) :=
  ⟨rfl, rfl, rfl, by simp [World.setCell], fun k hk => Below.heap_setCell W ⟨b, j, none⟩ v k (by show k ≠ b; omega)⟩
theorem OutR.put (B0 B1 : Nat) (W : World) (b : Nat) (o : Obj) (h0 : B0 ≤ b) (h1 : b < B1) : OutR B0 B1 W (W.putObj b o) :=
  ⟨rfl, rfl, rfl, by simp, fun k hk => World.putObj_heap_other (by omega)⟩
theorem OutR.drew (B0 B1 : Nat) (W : World) : OutR B0 B1 W W.drew := ⟨rfl, rfl, rfl, Nat.le_refl _, fun _ _ => rfl⟩
theorem trim_piece (x : List UInt8) : (⟨(Lib.trimSuffix (Bt (x ++ [10])).data.toList (⟨#[10]⟩ : ByteArray).data.toList).toArray⟩ : ByteArray) = Bt x := by
  have h1 : (Bt (x ++ [10])).data.toList = x ++ [10] := by unfold Bt; simp
  have h2 : (⟨#[10]⟩ : ByteArray).data.toList = [10] := rfl
  rw [h1, h2]
  have h3 : Lib.hasSuffix (x ++ [10]) [10] = true := by
    unfold Lib.hasSuffix
    rw [List.isSuffixOf_iff_suffix]
    exact ⟨x, rfl⟩
  unfold Lib.trimSuffix Bt
  rw [h3]
  simp
set_option maxHeartbeats 2000000 in
theorem bankLines1_in (n l bt : Nat) (ps : List (List UInt8)) (hno : ∀ p ∈ ps, (10 : UInt8) ∉ p) (hsz : (flatL ps).length ≤ 4611686018427387904) (W : World)
    (J Jx : List (List UInt8) → World → Prop) (hJ : ∀ pre A B, J pre A → OutR W.heap.size (W.heap.size + 4) A B → J pre B)
    (hY : ∀ pre x rest W1, ps = pre ++ x :: rest → J pre W1 → W.heap.size + 4 ≤ W1.heap.size → YieldAt Fence.wide (n - 1) Tryz.prog l #[.string (Bt x)] W1 fun e W' =>
      (e = .returned (.bool true) ∧ J (pre ++ [x]) W' ∧ W1.heap.size ≤ W'.heap.size ∧ ∀ k, W.heap.size ≤ k → k < W.heap.size + 4 → W'.heap[k]? = W1.heap[k]?) ∨ (e = .returned (.bool false) ∧ Jx (pre ++ [x]) W' ∧ ∀ k, W.heap.size ≤ k → k < W.heap.size + 4 → W'.heap[k]? = W1.heap[k]?))
    (hJx : ∀ pre A B, Jx pre A → OutR W.heap.size (W.heap.size + 4) A B → Jx pre B)
    (hb : W.heap[bt]? = some (.cells #[.string (Bt (flatL ps))] 9 (0, 0))) (h0 : J [] W) :
    CallsIn Fence.wide n Tryz.prog 76 #[.func (.yield l) #[] #[], .pointer (some ⟨bt, 0, none⟩)] W fun e W' => (∃ v, e = .returned v) ∧ (J ps W' ∨ ∃ pre, Jx pre W') := by
  refine callsIn_of_wp_marks Tryz.func76 rfl trivial ?_ rfl
  simp only [Tryz.ntmps76, List.size_toArray, List.length_cons, List.length_nil, Nat.reduceAdd, Nat.reduceSub, Array.replicate_succ, Array.replicate_zero, List.push_toArray, List.append_toArray, List.nil_append, List.cons_append]
  obtain ⟨S, hS⟩ : ∃ S, S = Bt (flatL ps) := ⟨_, rfl⟩
  rw [← hS] at hb
  have hcc : W.cell? ⟨bt, 0, none⟩ = some (.string S) := blk_cell hb 0
  have hbl := blk_lt hb
  have hc2 : (W.alloc (.cells #[.func (.yield l) #[] #[]] 23 (0, 0))).cell? ⟨bt, 0, none⟩ = some (.string S) := blk_cell (blk_alloc hb _) 0
  have HS := Lib.hid hS
  clear hS
  gi_wp2
  refine ⟨trivial, (fun h => by cases h), (callsIn_wide.2 (lines_make S _)).mono ?_⟩
  rintro e w' ⟨rfl, rfl⟩
  gi_wp2
  have HB2 := Lib.hid (show Below W.heap.size W ((W.alloc (.cells #[.func (.yield l) #[] #[]] 23 (0, 0))).alloc (.cells #[.string S] 9 (0, 0))) from ((Below.refl _ W).alloc (Nat.le_refl _) _).alloc (by simp) _)
  have hby2 : ((W.alloc (.cells #[.func (.yield l) #[] #[]] 23 (0, 0))).alloc (.cells #[.string S] 9 (0, 0))).heap[W.heap.size]? = some (.cells #[.func (.yield l) #[] #[]] 23 (0, 0)) := blk_alloc (blk_new W _) _
  have hbs2 : ((W.alloc (.cells #[.func (.yield l) #[] #[]] 23 (0, 0))).alloc (.cells #[.string S] 9 (0, 0))).heap[W.heap.size + 1]? = some (.cells #[.string S] 9 (0, 0)) := by
    have h := blk_new (W.alloc (.cells #[.func (.yield l) #[] #[]] 23 (0, 0))) (.cells #[.string S] 9 (0, 0))
    rwa [World.size_alloc] at h
  have hs2 : ((W.alloc (.cells #[.func (.yield l) #[] #[]] 23 (0, 0))).alloc (.cells #[.string S] 9 (0, 0))).heap.size = W.heap.size + 2 := by simp
  clear hc2 hcc
  generalize (W.alloc (.cells #[.func (.yield l) #[] #[]] 23 (0, 0))).alloc (.cells #[.string S] 9 (0, 0)) = w2 at HB2 hby2 hbs2 hs2 ⊢
  refine range_law (gf := 92) (lb := #[.pointer (some ⟨W.heap.size + 1, 0, none⟩)]) rfl (enters_of Tryz.func92 (by kernel_rfl) rfl) (fun x : List UInt8 => #[.string (Bt (x ++ [10]))]) (fun _ => rfl)
    (fun pre x => ∃ rest, ps = pre ++ x :: rest) (fun xs => xs = ps) (fun W1 => ∃ s, W1.heap[W.heap.size + 1]? = some (.cells #[.string s] 9 (0, 0)))
    (fun A B => (∃ v, B = A.setCell ⟨W.heap.size + 1, 0, none⟩ v) ∨ B = A.drew) (fun A B => B.heap[W.heap.size + 1]? = A.heap[W.heap.size + 1]?)
    ?seq ?St (fun A B C h1 h2 => h2.trans h1) (fun W1 o => World.putObj_heap_other (by omega)) (fun W1 o ⟨s, h⟩ => ⟨s, (World.putObj_heap_other (by omega)).trans h⟩)
    (fun pre W1 => J pre W1 ∧ W1.heap[W.heap.size]? = some (.cells #[.func (.yield l) #[] #[]] 23 (0, 0)) ∧ W.heap.size + 4 ≤ W1.heap.size) Jx
    ?I0 ?Is ?Xs ?Ir (fun pre W1 o h => hJx _ _ _ h (OutR.put _ _ _ _ _ (by omega) (by omega)))
    (fun x => { tmps := #[.func (.yield l) #[] #[], .pointer (some ⟨bt, 0, none⟩), .pointer (some ⟨W.heap.size, 0, none⟩), .string (Bt (x ++ [10])), .string S, .func (.func 92) #[] #[.pointer (some ⟨W.heap.size + 1, 0, none⟩)], .string (Bt (x ++ [10])), undef, undef, undef, undef, undef], defers := [] }) ?assign ?body ?done ?stop
  case seq =>
    intro J' Jx' W1 hlow hsz1 hst _ hy' h0'
    refine (lines1_in (n - 1) (w2.heap.size + 1) (W.heap.size + 1) ps hno hsz J' Jx' (fun pre A v h => hst _ _ _ h (.inl ⟨v, rfl⟩)) (fun pre A h => hst _ _ _ h (.inr rfl)) (fun pre x rest s A hp hj hc => hy' pre x A ⟨rest, hp⟩ hj ⟨s, hc⟩) W1 (by rw [← HS.out]; exact blk_below hbs2 hlow) h0').mono ?_
    rintro e W' ⟨hv, hj | hx⟩
    · exact ⟨hv, .inl ⟨ps, rfl, hj⟩⟩
    · exact ⟨hv, .inr hx⟩
  case St =>
    rintro A B (⟨v, rfl⟩ | rfl) k hk
    · exact Below.heap_setCell _ _ _ _ (by show k ≠ W.heap.size + 1; omega)
    · rfl
  case I0 =>
    intro W1 hlow hsz1
    refine ⟨hJ _ _ _ h0 ?_, blk_below hby2 hlow, by omega⟩
    have hb3 := below_then HB2.out (by omega) hlow
    refine ⟨hb3.os, hb3.tape, hb3.output, hb3.size, fun k hk => ?_⟩
    by_cases hlt : k < W.heap.size
    · exact hb3.block k hlt
    · rw [Array.getElem?_eq_none (by omega), Array.getElem?_eq_none (by omega)]
  case Is =>
    rintro pre A B ⟨h1, h2, h3⟩ (⟨v, rfl⟩ | rfl)
    · exact ⟨hJ _ _ _ h1 (OutR.set _ _ _ _ _ _ (by omega) (by omega)), (Below.heap_setCell _ _ _ _ (by show W.heap.size ≠ W.heap.size + 1; omega)).trans h2, by simpa [World.setCell] using h3⟩
    · exact ⟨hJ _ _ _ h1 (OutR.drew _ _ _), h2, h3⟩
  case Xs =>
    rintro pre A B h (⟨v, rfl⟩ | rfl)
    · exact hJx _ _ _ h (OutR.set _ _ _ _ _ _ (by omega) (by omega))
    · exact hJx _ _ _ h (OutR.drew _ _ _)
  case Ir =>
    rintro pre W1 o ⟨h1, h2, h3⟩
    exact ⟨hJ _ _ _ h1 (OutR.put _ _ _ _ _ (by omega) (by omega)), (World.putObj_heap_other (by omega)).trans h2, by simpa using h3⟩
  case assign =>
    intro x W1 K hK
    gi_wp2
    exact hK
  case body =>
    rintro pre x W1 ⟨rest, hp⟩ ⟨hj, hby, hs4⟩ ⟨s, hbs⟩ hlt
    have hcy : W1.cell? ⟨W.heap.size, 0, none⟩ = some (.func (.yield l) #[] #[]) := blk_cell hby 0
    obtain ⟨fn, tmps, assign, body, hyy, hR⟩ := hY pre x rest W1.drew hp (hJ _ _ _ hj (OutR.drew _ _ _)) hs4
    have hxl : (Bt (x ++ [10])).size ≤ 9223372036854775807 := by
      have h1 : (flatL (pre ++ x :: rest)).length = (flatL pre).length + (x.length + 1 + (flatL rest).length) := by unfold flatL; rw [List.flatMap_append, List.length_append, List.flatMap_cons, List.length_append, List.length_append]; rfl
      rw [hp, h1] at hsz
      rw [Bt_size, List.length_append]
      simp
      omega
    have hT := trim_piece x
    have HTr : ∀ w', CallsIn Fence.wide (n - 1 - 1 - 1) Tryz.prog 78 #[.string (Bt (x ++ [10])), .string ⟨#[10]⟩] w' fun e w'' => e = .returned (.string (Bt x)) ∧ w'' = w' := fun w' => by
      have h : CallsIn Fence.wide (n - 1 - 1 - 1) Tryz.prog 78 #[.string (Bt (x ++ [10])), .string ⟨#[10]⟩] w' _ := callsIn_wide.2 (Tryz.strings_TrimSuffix (Bt (x ++ [10])) ⟨#[10]⟩ w' hxl)
      rw [hT] at h
      exact h
    have HTr := Lib.hid HTr
    clear hT
    have HR : RoundIn Fence.wide (n - 1 - 1 - 1) Tryz.prog l fn tmps assign body W1.drew fun e W' => ∃ b : Bool, e = .returned (.bool b) ∧ Hid ((∀ k, W.heap.size ≤ k → k < W.heap.size + 4 → W'.heap[k]? = W1.heap[k]?) ∧ (if b = true then J (pre ++ [x]) W' ∧ W1.heap.size ≤ W'.heap.size else Jx (pre ++ [x]) W')) := by
      refine (show RoundIn Fence.wide (n - 1 - 1 - 1) Tryz.prog l fn tmps assign body W1.drew _ from ⟨hR.1, fun c cs _ => hR.2 c cs (room_wide _)⟩).mono ?_
      rintro e W' (⟨rfl, h1, h2, h3⟩ | ⟨rfl, h1, h3⟩)
      · exact ⟨true, rfl, Lib.hid ⟨h3, by rw [if_pos rfl]; exact ⟨h1, h2⟩⟩⟩
      · exact ⟨false, rfl, Lib.hid ⟨h3, by rw [if_neg (by simp)]; exact h1⟩⟩
    have HR := Lib.hid HR
    clear hR
    gi_wp2
    gi_region_with (first
      | (refine ⟨trivial, (fun h => by cases h), ?_⟩; gi_at_call 78; refine (CallsIn.inRound _ (HTr.out _)).mono ?_; rintro e w' ⟨rfl, rfl⟩)
      | (refine ⟨(fun h => by cases h), ?_⟩; refine HR.out.mono ?_; rintro e w' ⟨b, rfl, hpost⟩))
    all_goals
      have hKeep := Lib.hid hpost.out.1
      have hPost := Lib.hid hpost.out.2
      clear hpost HR HTr
      cases b with
      | true =>
        gi_wp2
        have h := hPost.out
        simp only [if_true] at h
        exact ⟨fun k hk => hKeep.out k (by omega) (by omega), hKeep.out _ (by omega) (by omega), h.1, (hKeep.out _ (Nat.le_refl _) (by omega)).trans hby, by omega⟩
      | false =>
        gi_wp2
        have h := hPost.out
        simp only [Bool.false_eq_true, if_false] at h
        exact ⟨fun k hk => hKeep.out k (by omega) (by omega), hKeep.out _ (by omega) (by omega), h⟩
  case done =>
    rintro xs W1 rfl ⟨hj, _, _⟩ hK
    gi_wp2
    refine ⟨by simp, .inl ⟨_, _, rfl, run_takeDeferred hK, ?_⟩⟩
    exact ⟨_, results_none rfl _ _ _, ⟨_, rfl⟩, .inl (hJ _ _ _ hj (OutR.put _ _ _ _ _ (by omega) (by omega)))⟩
  case stop =>
    rintro pre W1 hx hK
    gi_wp2
    refine ⟨by simp, .inl ⟨_, _, rfl, run_takeDeferred hK, ?_⟩⟩
    exact ⟨_, results_none rfl _ _ _, ⟨_, rfl⟩, .inr ⟨pre, hJx _ _ _ hx (OutR.put _ _ _ _ _ (by omega) (by omega))⟩⟩
end Go.Proofs.YtndojpcjhkncgaaGreatDoor.Q
end

section
namespace Go.Proofs.YtndojpcjhkncgaaGreatDoor.Q
open Go Go.RowKit Go.Shelf Go.Proofs.YtndojpcjhkncgaaGreatDoorW.PrintWords
set_option linter.unusedVariables false
set_option linter.unusedSimpArgs false
theorem drop_all (p : UInt8 → Bool) : ∀ l : List UInt8, (l.dropWhile p).all p = true → l.all p = true
  | [], _ => rfl
  | a :: l, h => by
    by_cases ha : p a = true
    · rw [List.dropWhile_cons_of_pos ha] at h
      rw [List.all_cons, ha, drop_all p l h]
      rfl
    · rw [List.dropWhile_cons_of_neg ha, List.all_cons] at h
      simp [ha] at h
theorem trim_nil (l cs : List UInt8) : (Lib.trimS l cs = []) ↔ l.all (cs.contains ·) = true := by
  unfold Lib.trimS Lib.trimLeftS Lib.trimRightS
  constructor
  · intro h
    have h1 := drop_all (cs.contains ·) _ (by rw [h]; rfl)
    rw [List.all_reverse] at h1
    have h2 := drop_all (cs.contains ·) _ h1
    rwa [List.all_reverse] at h2
  · intro h
    have gen : ∀ l : List UInt8, l.all (cs.contains ·) = true → l.dropWhile (cs.contains ·) = [] := by
      intro l
      induction l with
      | nil => intro _; rfl
      | cons x l ih =>
        intro h
        rw [List.all_cons, Bool.and_eq_true] at h
        rw [List.dropWhile_cons_of_pos h.1]
        exact ih h.2
    have h1 : l.reverse.dropWhile (cs.contains ·) = [] := gen _ (by rw [List.all_reverse]; exact h)
    rw [h1]
    rfl
def hexS : ByteArray := ⟨#[48, 49, 50, 51, 52, 53, 54, 55, 56, 57, 97, 98, 99, 100, 101, 102]⟩
theorem trim_hex (s : ByteArray) (w : World) (hs : s.size ≤ 9223372036854775807) :
    Calls Tryz.prog 75 #[.string s, .string hexS] w fun e w' => e = .returned (.string ⟨(Lib.trimS s.data.toList hexS.data.toList).toArray⟩) ∧ Below w.heap.size w w' :=
  Any.strings_Trim_laid Tryz.lays160 (by kernel_rfl) s hexS w hs (by decide) (ascii_of_all (by decide))
theorem trim_all (s : ByteArray) : ((⟨(Lib.trimS s.data.toList hexS.data.toList).toArray⟩ : ByteArray).toList == []) = s.data.toList.all hexB := by
  rw [ByteArray.toList_eq, Bool.eq_iff_iff, beq_iff_eq]
  exact trim_nil _ _
theorem byte_at (s : ByteArray) (i : Nat) (h : i < s.size) (c : UInt8) : decide (s.data.toList[i]? = some c) = decide (((s[i]'h).toNat : Int) = (c.toNat : Int)) := by
  have h' : i < s.data.toList.length := h
  rw [List.getElem?_eq_getElem h', Bool.eq_iff_iff, decide_eq_true_iff, decide_eq_true_iff]
  show some (s[i]'h) = some c ↔ _
  rw [Option.some.injEq, Int.natCast_inj, UInt8.toNat_inj]
theorem closed_parts (s : ByteArray) (hs : s.size = 22) : closedF s.data.toList = (decide ((s.extract 0 4).toList = [69, 78, 68, 32]) && (decide (((s[12]'(by omega)).toNat : Int) = 32) && (!(((s[21]'(by omega)).toNat : Int) != 10) && (((s.data.toList.drop 4).take 8 ++ (s.data.toList.drop 13).take 8).all hexB)))) := by
  have e4 : (s.extract 0 4).toList = s.data.toList.take 4 := by rw [ByteArray.toList_eq, ByteArray.data_extract]; simp
  have h21 := byte_at s 21 (by omega) 10
  have e21 : (!(((s[21]'(by omega)).toNat : Int) != 10)) = decide (((s[21]'(by omega)).toNat : Int) = ((10 : UInt8).toNat : Int)) := by
    show (!(!(((s[21]'(by omega)).toNat : Int) == 10))) = _
    rw [Bool.not_not, Bool.eq_iff_iff, beq_iff_eq, decide_eq_true_iff]
    rfl
  unfold closedF
  rw [e4, byte_at s 12 (by omega) 32, h21, e21]
  rfl
set_option maxHeartbeats 1000000 in
theorem closed_go (s : ByteArray) (hs : s.size = 22) (w : World) :
    Calls Tryz.prog 65 #[.string s] w fun e w' => e = .returned (.bool (closedF s.data.toList)) ∧ Below w.heap.size w w' := by
  have hab : (s.extract 4 12 ++ s.extract 13 21).data.toList = (s.data.toList.drop 4).take 8 ++ (s.data.toList.drop 13).take 8 := by simp [ByteArray.data_extract, List.extract]
  have habs : (s.extract 4 12).size + (s.extract 13 21).size ≤ 9223372036854775807 := by simp; omega
  have hxs : (s.extract 4 12 ++ s.extract 13 21).size ≤ 9223372036854775807 := by rw [ByteArray.size_append]; exact habs
  obtain ⟨x, hx⟩ : ∃ x, x = s.extract 4 12 ++ s.extract 13 21 := ⟨_, rfl⟩
  rw [← hx] at hab hxs
  have hTr : ∀ w, Calls Tryz.prog 75 #[.string x, .string hexS] w fun e w' => ∃ y : ByteArray, e = .returned (.string y) ∧ Hid ((y.toList == []) = (((s.data.toList.drop 4).take 8 ++ (s.data.toList.drop 13).take 8).all hexB)) ∧ Below w.heap.size w w' := by
    intro w
    refine (trim_hex x w hxs).mono ?_
    rintro e w' ⟨rfl, hb⟩
    exact ⟨_, rfl, Lib.hid (by rw [trim_all, hab]), hb⟩
  have HT := Lib.hid hTr
  have HX := Lib.hid hx
  have HL := Lib.hid (show s.data.toList.length = 22 from hs)
  clear hx hab hxs hTr
  go_enter Tryz.func65, Tryz.ntmps65
  go_wp2_with fail
  · rename_i h4 h12 h21
    go_ret
    exact ⟨by rw [closed_parts s hs, h21]; simp, Below.refl _ _⟩
  · rename_i h4 h12 h21 K hK
    have H := Lib.hid (closed_parts s hs)
    rw [h21, decide_eq_true h4, decide_eq_true h12] at H
    clear h4 h12 h21
    go_region_with (go_at_call 75; rw [← HX.out]; refine (HT.out _).mono ?_; rintro e w' ⟨y, rfl, hy, hb⟩)
    go_wp2_with fail
    go_ret
    refine ⟨?_, (below_drew (Below.refl w.heap.size w)).trans hb⟩
    rw [H.out, ← hy.out]
    simp [Act.put]
  · rename_i h4 h12
    go_ret
    exact ⟨by rw [closed_parts s hs, decide_eq_false h12]; simp, Below.refl _ _⟩
  · rename_i h4
    go_ret
    exact ⟨by rw [closed_parts s hs, decide_eq_false h4]; simp, Below.refl _ _⟩
end Go.Proofs.YtndojpcjhkncgaaGreatDoor.Q
end

section
namespace Go.Proofs.YtndojpcjhkncgaaGreatDoor.Q
open Go Go.RowKit Go.Proofs.YtndojpcjhkncgaaGreatDoorW.PrintWords
set_option linter.unusedVariables false
set_option linter.unusedSimpArgs false
theorem setAll_both {B : Nat} : ∀ (l : List ((Nat × Nat) × Int)) {A C : World}, Below B A C → (∀ x ∈ l, x.1.1 < B) → Below B (setAll A l) (setAll C l)
  | [], _, _, h, _ => h
  | x :: l, _, _, h, hb => setAll_both l (below_set_both h ⟨x.1.1, x.1.2, none⟩ (hb x List.mem_cons_self) _) (fun y hy => hb y (List.mem_cons_of_mem _ hy))
abbrev payL : List UInt8 := [80, 65, 89]
abbrev orderW : List UInt8 := [111, 114, 100, 101, 114]
abbrev backL : List UInt8 := [66, 65, 67, 75]
abbrev returnW : List UInt8 := [114, 101, 116, 117, 114, 110]
set_option maxHeartbeats 1000000 in
theorem read1_go (l : List UInt8) (hl : l.length ≤ 1048576) (w0 w : World) (hG0 : GG w0) (hlow : Below w0.heap.size w0 w) (bf bc bs : Nat) (cf cc cs : Array Value) (tf tc ts : TypeId)
    (hf : w.heap[bf]? = some (.cells cf tf (0, 0))) (hc : w.heap[bc]? = some (.cells cc tc (0, 0))) (hs : w.heap[bs]? = some (.cells cs ts (0, 0))) (h1 : 1 < cf.size) (h2 : 0 < cc.size) (h3 : 0 < cs.size)
    (b1 : w0.heap.size ≤ bf) (b2 : w0.heap.size ≤ bc) (b3 : w0.heap.size ≤ bs) :
    Calls Tryz.prog 48 #[.string (Bt l), .pointer (some ⟨bf, 0, none⟩), .pointer (some ⟨bc, 0, none⟩), .pointer (some ⟨bs, 0, none⟩)] w fun e w' =>
      ∃ ms, e = .returned (.bool (scanF l payL 4).isSome) ∧ ms.length ≤ 4 ∧ (∀ ns, scanF l payL 4 = some ns → ms = ns) ∧ Below w.heap.size (setAll w ([(bf, 0), (bf, 1), (bc, 0), (bs, 0)].zip ms)) w' := by
  have lf := blk_lt hf
  have lc := blk_lt hc
  have ls := blk_lt hs
  have hS : Calls Tryz.prog 49 #[.string (Bt l), .string ⟨#[80, 65, 89]⟩, .slice (some ⟨w.heap.size, 0, none⟩) 4 4] (w.alloc (.cells #[.pointer (some ⟨bf, 0, none⟩), .pointer (some ⟨bf, 1, none⟩), .pointer (some ⟨bc, 0, none⟩), .pointer (some ⟨bs, 0, none⟩)] 90 (0, 0))) _ :=
    scan_go l payL hl [(bf, 0), (bf, 1), (bc, 0), (bs, 0)] (by show 4 ≤ 100; decide) w.heap.size w0 _ hG0 (below_alloc hlow _) (blk_new w _) (by
      intro p hp
      simp only [List.mem_cons, List.not_mem_nil, or_false] at hp
      rcases hp with rfl | rfl | rfl | rfl
      · exact ⟨by show bf ≠ w.heap.size; omega, b1, cf, tf, blk_alloc hf _, by show 0 < cf.size; omega⟩
      · exact ⟨by show bf ≠ w.heap.size; omega, b1, cf, tf, blk_alloc hf _, h1⟩
      · exact ⟨by show bc ≠ w.heap.size; omega, b2, cc, tc, blk_alloc hc _, h2⟩
      · exact ⟨by show bs ≠ w.heap.size; omega, b3, cs, ts, blk_alloc hs _, h3⟩)
  have HS := Lib.hid hS
  have HL := Lib.hid (And.intro lf (And.intro lc ls))
  clear hS hf hc hs lf lc ls
  go_enter Tryz.func48, Tryz.ntmps48
  go_wp2_with fail
  refine HS.out.mono ?_
  rintro e w' ⟨ms, rfl, hm1, hm2, hb⟩
  have HB := Lib.hid hb
  clear hb
  go_wp2_with fail
  go_ret
  refine ⟨ms, rfl, hm1, hm2, ?_⟩
  have h := below_alloc (Below.refl w.heap.size w) (.cells #[.pointer (some ⟨bf, 0, none⟩), .pointer (some ⟨bf, 1, none⟩), .pointer (some ⟨bc, 0, none⟩), .pointer (some ⟨bs, 0, none⟩)] 90 (0, 0))
  refine (setAll_both _ h (fun x hx => ?_)).trans (HB.out.mono (by simp))
  have hx := (List.of_mem_zip hx).1
  simp only [List.mem_cons, List.not_mem_nil, or_false] at hx
  have := HL.out
  rcases hx with e | e | e | e <;> rw [e] <;> omega
set_option maxHeartbeats 1000000 in
theorem answer1_go (l : List UInt8) (hl : l.length ≤ 1048576) (w0 w : World) (hG0 : GG w0) (hlow : Below w0.heap.size w0 w) (bf bc : Nat) (cf cc : Array Value) (tf tc : TypeId)
    (hf : w.heap[bf]? = some (.cells cf tf (0, 0))) (hc : w.heap[bc]? = some (.cells cc tc (0, 0))) (h1 : 1 < cf.size) (h2 : 0 < cc.size)
    (b1 : w0.heap.size ≤ bf) (b2 : w0.heap.size ≤ bc) :
    Calls Tryz.prog 51 #[.string (Bt l), .pointer (some ⟨bf, 0, none⟩), .pointer (some ⟨bc, 0, none⟩)] w fun e w' =>
      ∃ ms, e = .returned (.bool (scanF l backL 3).isSome) ∧ ms.length ≤ 3 ∧ (∀ ns, scanF l backL 3 = some ns → ms = ns) ∧ Below w.heap.size (setAll w ([(bf, 0), (bf, 1), (bc, 0)].zip ms)) w' := by
  have lf := blk_lt hf
  have lc := blk_lt hc
  have hS : Calls Tryz.prog 49 #[.string (Bt l), .string ⟨#[66, 65, 67, 75]⟩, .slice (some ⟨w.heap.size, 0, none⟩) 3 3] (w.alloc (.cells #[.pointer (some ⟨bf, 0, none⟩), .pointer (some ⟨bf, 1, none⟩), .pointer (some ⟨bc, 0, none⟩)] 90 (0, 0))) _ :=
    scan_go l backL hl [(bf, 0), (bf, 1), (bc, 0)] (by show 3 ≤ 100; decide) w.heap.size w0 _ hG0 (below_alloc hlow _) (blk_new w _) (by
      intro p hp
      simp only [List.mem_cons, List.not_mem_nil, or_false] at hp
      rcases hp with rfl | rfl | rfl
      · exact ⟨by show bf ≠ w.heap.size; omega, b1, cf, tf, blk_alloc hf _, by show 0 < cf.size; omega⟩
      · exact ⟨by show bf ≠ w.heap.size; omega, b1, cf, tf, blk_alloc hf _, h1⟩
      · exact ⟨by show bc ≠ w.heap.size; omega, b2, cc, tc, blk_alloc hc _, h2⟩)

  have HS := Lib.hid hS
  have HL := Lib.hid (And.intro lf lc)
  clear hS hf hc lf lc
  go_enter Tryz.func51, Tryz.ntmps51
  go_wp2_with fail
  refine HS.out.mono ?_
  rintro e w' ⟨ms, rfl, hm1, hm2, hb⟩
  have HB := Lib.hid hb
  clear hb
  go_wp2_with fail
  go_ret
  refine ⟨ms, rfl, hm1, hm2, ?_⟩
  have h := below_alloc (Below.refl w.heap.size w) (.cells #[.pointer (some ⟨bf, 0, none⟩), .pointer (some ⟨bf, 1, none⟩), .pointer (some ⟨bc, 0, none⟩)] 90 (0, 0))
  refine (setAll_both _ h (fun x hx => ?_)).trans (HB.out.mono (by simp))
  have hx := (List.of_mem_zip hx).1
  simp only [List.mem_cons, List.not_mem_nil, or_false] at hx
  have := HL.out
  rcases hx with e | e | e <;> rw [e] <;> omega
end Go.Proofs.YtndojpcjhkncgaaGreatDoor.Q
end

section
namespace Go.Proofs.YtndojpcjhkncgaaGreatDoor.Q
open Go Go.RowKit Go.Shelf Go.Proofs.YtndojpcjhkncgaaGreatDoorW.PrintWords
attribute [local go_sem] Oper.semAt_some
set_option linter.unusedVariables false
set_option linter.unusedSimpArgs false
structure OutN (B0 B1 : Nat) (A B : World) : Prop where
  os : B.os = A.os
  tape : B.tape = A.tape
  output : B.output = A.output
  size : A.heap.size ≤ B.heap.size
  same : ∀ k, k < A.heap.size → (k < B0 ∨ B1 ≤ k) → B.heap[k]? = A.heap[k]?
theorem OutR.toN {B0 B1 : Nat} {A B : World} (h : OutR B0 B1 A B) : OutN B0 B1 A B := ⟨h.os, h.tape, h.output, h.size, fun k _ hk => h.same k hk⟩
theorem OutN.of_below {A B : World} (B0 B1 : Nat) (h : Below A.heap.size A B) : OutN B0 B1 A B := ⟨h.os, h.tape, h.output, h.size, fun k hk _ => h.block k hk⟩
theorem store_func (P : Program) (w : World) (a : Addr) (m : Mode) (f : Fn) (ts cs : Array Value) : (store a (.func f ts cs) m).run P w = stored P w a (.func f ts cs) m := run_store P w a _ m rfl
attribute [local go_sem] store_func
theorem bankLines_make (s : ByteArray) (w : World) : Calls Tryz.prog 66 #[.string s] w fun e w' => e = .returned (.func (.func 76) #[] #[.pointer (some ⟨w.heap.size, 0, none⟩)]) ∧ w' = w.alloc (.cells #[.string s] 9 (0, 0)) := by
  go_enter Tryz.func66, Tryz.ntmps66
  go_wp2
  go_ret
  exact ⟨rfl, rfl⟩
theorem flatL_le (ps : List (List UInt8)) : ps.length ≤ (flatL ps).length := by
  induction ps with
  | nil => exact Nat.zero_le _
  | cons p ps ih =>
    unfold flatL at ih ⊢
    rw [List.flatMap_cons, List.length_append, List.length_append, List.length_cons, List.length_singleton]
    omega
theorem flatL_mid (pre rest : List (List UInt8)) (x : List UInt8) : pre.length ≤ (flatL (pre ++ x :: rest)).length ∧ x.length ≤ (flatL (pre ++ x :: rest)).length := by
  have h1 : (flatL (pre ++ x :: rest)).length = (flatL pre).length + (x.length + 1 + (flatL rest).length) := by unfold flatL; rw [List.flatMap_append, List.length_append, List.flatMap_cons, List.length_append, List.length_append]; rfl
  have h2 := flatL_le pre
  omega
theorem allOk_append (ok : List (List UInt8) → List UInt8 → Bool) : ∀ (a p b : List (List UInt8)), allOk ok p (a ++ b) = (allOk ok p a && allOk ok (p ++ a) b)
  | [], p, b => by rw [List.nil_append, List.append_nil]; rfl
  | x :: a, p, b => by rw [List.cons_append, allOk, allOk, allOk_append ok a (p ++ [x]) b, List.append_assoc, Bool.and_assoc]; rfl
def readC (ok : List (List UInt8) → List UInt8 → Bool) (t : List UInt8) : Int :=
  if 1048576 < t.length then 3 else if formB t = true then (if allOk ok [] (linesOf t) = true then (if t.drop (t.length - 22) = endL (t.take (t.length - 22)) then 0 else 361) else 360) else 360
theorem read_out (tmps : Array Value) (W : World) (r : Nat) (c : Int) (h : tmps[6]?.getD undef = .pointer (some ⟨r, 0, none⟩)) (hc : W.cell? ⟨r, 0, none⟩ = some (.int .i64 c)) : (results Tryz.f47 tmps).run Tryz.prog W = .ok (.int .i64 c) W := by
  have h0 : Tryz.f47.results = #[.cell 6 33] := rfl
  have hu := run_underlying Tryz.underlying33 W
  simp only [results, h0]
  simp [h, hc, hu, go_sem, loadVar, asAddr, Sem.run_bind, Result.andThen]
theorem read_leaves {n : Nat} {R : Ending → World → Prop} (tmps : Array Value) (W : World) (r : Nat) (c : Int) (h : tmps[6]?.getD undef = .pointer (some ⟨r, 0, none⟩)) (hc : W.cell? ⟨r, 0, none⟩ = some (.int .i64 c)) (hR : R (.returned (.int .i64 c)) W) :
    bodyPostM Fence.wide n Tryz.prog Tryz.f47 R Exit.ret { tmps := tmps, defers := [] } W := ⟨_, read_out tmps W r c h hc, hR⟩
def retOnly (Q : Exit → Act → World → Prop) : Exit → Act → World → Prop
  | .ret, a, w => Q .ret a w
  | _, _, _ => False
theorem retOnly_to {Q : Exit → Act → World → Prop} (e : Exit) (a : Act) (w : World) (h : retOnly Q e a w) : Q e a w := by
  cases e <;> first | exact h | exact False.elim h
set_option maxHeartbeats 2000000 in
set_option maxRecDepth 100000 in
theorem read_go (n : Nat) (t : List UInt8) (ht : t.length ≤ 4611686018427387904) (w0 w : World) (hG0 : GG w0) (hlow : Below w0.heap.size w0 w) (g1 g2 : Nat) (lb1 lb2 : Array Value)
    (en1 : ∀ args w, (callFunc g1 args).run Tryz.prog w = .ok (.enter g1 args) w) (en2 : ∀ args w, (callFunc g2 args).run Tryz.prog w = .ok (.enter g2 args) w)
    (ok : List (List UInt8) → List UInt8 → Bool) (I : Nat → List (List UInt8) → World → Prop)
    (hI0 : ∀ B1 W, w.heap.size ≤ B1 → Below w.heap.size w W → I B1 [] W) (hIs : ∀ B1 pre A B, I B1 pre A → OutN w.heap.size B1 A B → I B1 pre B) (hIl : ∀ B1 pre W, I B1 pre W → Below w0.heap.size w0 W)
    (hF : ∀ B1 pre x W, w.heap.size ≤ B1 → B1 ≤ W.heap.size → pre.length ≤ 1048576 → x.length ≤ 1048576 → I B1 pre W →
      Calls Tryz.prog (if pre = [] then g1 else g2) (#[.string (Bt x)] ++ (if pre = [] then lb1 else lb2)) W fun e W' => e = .returned (.bool (ok pre x)) ∧ (ok pre x = true → I B1 (pre ++ [x]) W') ∧ (∀ k, w.heap.size ≤ k → k < B1 → W'.heap[k]? = W.heap[k]?) ∧ Below w0.heap.size w0 W' ∧ W.heap.size ≤ W'.heap.size) :
    Calls Tryz.prog 47 #[.string (Bt t), .func (.func g1) #[] lb1, .func (.func g2) #[] lb2] w fun e w' => e = .returned (.int .i64 (readC ok t)) ∧ Below w0.heap.size w0 w' ∧ (readC ok t = 0 → ∃ B1, w.heap.size ≤ B1 ∧ I B1 (linesOf t) w') := by
  refine (callsIn_wide (n := n)).1 (callsIn_of_wp_marks Tryz.func47 rfl trivial (wpIn_mono ?_ retOnly_to) rfl)
  simp only [Tryz.ntmps47, List.size_toArray, List.length_cons, List.length_nil, Nat.reduceAdd, Nat.reduceSub, Array.replicate_succ, Array.replicate_zero, List.push_toArray, List.append_toArray, List.nil_append, List.cons_append]
  obtain ⟨S, hS⟩ : ∃ S, S = Bt t := ⟨_, rfl⟩
  rw [← hS]
  have hsz : S.size = t.length := by rw [hS, Bt_size]
  have hb2 : Below w.heap.size w ((w.alloc (.cells #[.func (.func g2) #[] lb2] 23 (0, 0))).alloc (.cells #[.int .i64 0] 33 (0, 0))) := ((Below.refl _ w).alloc (Nat.le_refl _) _).alloc (by simp) _
  have ho2 : ((w.alloc (.cells #[.func (.func g2) #[] lb2] 23 (0, 0))).alloc (.cells #[.int .i64 0] 33 (0, 0))).heap[w.heap.size]? = some (.cells #[.func (.func g2) #[] lb2] 23 (0, 0)) := blk_alloc (blk_new w _) _
  have hr2 : ((w.alloc (.cells #[.func (.func g2) #[] lb2] 23 (0, 0))).alloc (.cells #[.int .i64 0] 33 (0, 0))).heap[w.heap.size + 1]? = some (.cells #[.int .i64 0] 33 (0, 0)) := by
    have h := blk_new (w.alloc (.cells #[.func (.func g2) #[] lb2] 23 (0, 0))) (.cells #[.int .i64 0] 33 (0, 0))
    rwa [World.size_alloc] at h
  have hs2 : ((w.alloc (.cells #[.func (.func g2) #[] lb2] 23 (0, 0))).alloc (.cells #[.int .i64 0] 33 (0, 0))).heap.size = w.heap.size + 2 := by simp
  have hr2c := blk_cell hr2 0
  have hr2f := blk_frozen hr2 0
  have HS := Lib.hid hS
  have HB2 := Lib.hid hb2
  have HO2 := Lib.hid ho2
  have HR2 := Lib.hid hr2
  have HI0 := Lib.hid hI0
  have HIS := Lib.hid hIs
  have HIL := Lib.hid hIl
  have HF := Lib.hid hF
  have HG0 := Lib.hid hG0
  have HLow := Lib.hid hlow
  clear hS hb2 ho2 hr2 hI0 hIs hIl hF hG0 hlow
  by_cases hlong : 1048576 < t.length
  · have hC : readC ok t = 3 := by unfold readC; rw [if_pos hlong]
    rw [hC]
    have hd1 : decide ((1048576 : Int) < (S.size : Int)) = true := decide_eq_true (by omega)
    have hd2 : decide (1048576 < S.size) = true := decide_eq_true (by omega)
    clear hsz hC
    gi_wp2
    refine read_leaves _ _ (w.heap.size + 1) 3 rfl (blk_cell (cs := #[.int .i64 3]) (by rw [← World.size_alloc w (.cells #[.func (.func g2) #[] lb2] 23)]; exact blk_new _ _) 0) ⟨rfl, ?_, fun h => by cases h⟩
    exact HLow.out.trans ((((Below.refl w.heap.size w).alloc (Nat.le_refl _) _).alloc (by simp) _).mono HLow.out.size)
  · have hd1 : decide ((1048576 : Int) < (S.size : Int)) = false := decide_eq_false (by omega)
    have hd2 : decide (1048576 < S.size) = false := decide_eq_false (by omega)
    by_cases h23 : t.length < 23
    · have hC : readC ok t = 360 := by unfold readC formB; rw [if_neg hlong, decide_eq_false (by omega)]; rfl
      rw [hC]
      have hd3 : decide ((S.size : Int) - 22 < 1) = true := decide_eq_true (by omega)
      have hw : wrap64 ((S.size : Int) - 22) = (S.size : Int) - 22 := IntWalk.wrap64_in _ ⟨by omega, by omega⟩
      clear hsz hC
      gi_wp2
      refine ⟨trivial, ?_⟩
      gi_wp2
      refine read_leaves _ _ (w.heap.size + 1) 360 rfl (blk_cell (cs := #[.int .i64 360]) (by rw [← World.size_alloc w (.cells #[.func (.func g2) #[] lb2] 23)]; exact blk_new _ _) 0) ⟨rfl, ?_, fun h => by cases h⟩
      exact HLow.out.trans ((((Below.refl w.heap.size w).alloc (Nat.le_refl _) _).alloc (by simp) _).mono HLow.out.size)
    · obtain ⟨q, hq⟩ : ∃ q, t.length = q + 23 := ⟨t.length - 23, by omega⟩
      obtain ⟨N, hN⟩ : ∃ N : Int, N = (S.size : Int) := ⟨_, rfl⟩
      have hw : wrap64 ((S.size : Int) - 22) = (q : Int) + 1 := by rw [IntWalk.wrap64_in _ ⟨by omega, by omega⟩]; omega
      have hw2 : wrap64 ((q : Int) + 1 - 1) = (q : Int) := by rw [IntWalk.wrap64_in _ ⟨by omega, by omega⟩]; omega
      have hd3 : decide ((q : Int) + 1 < 1) = false := decide_eq_false (by omega)
      have hx22 : (S.extract (q + 1) S.size).size = 22 := by simp; omega
      have HCl := Lib.hid (closed_go (S.extract (q + 1) S.size) hx22)
      have k1 : q < S.size := by omega
      have k2 : (q : Int) < (S.size : Int) := by omega
      have k3 : (q : Int) + 1 ≤ (S.size : Int) := by omega
      have k4 : q + 1 ≤ S.size := by omega
      have HSZ := Lib.hid hsz
      have HQ := Lib.hid hq
      clear hx22 hsz hq hN hlong h23
      gi_wp2
      refine ⟨trivial, (fun h => by cases h), (callsIn_wide.2 (HCl.out _)).mono ?_⟩
      rintro e w3 ⟨rfl, hb3⟩
      have hb3' := below_then HB2.out (by rw [hs2]; omega) hb3
      have ho3 := (hb3.block w.heap.size (by rw [hs2]; omega)).trans HO2.out
      have hr3 := (hb3.block (w.heap.size + 1) (by rw [hs2]; omega)).trans HR2.out
      have hs3 : w.heap.size + 2 ≤ w3.heap.size := by have := hb3.size; rw [hs2] at this; exact this
      have hr3c : w3.cell? ⟨w.heap.size + 1, 0, none⟩ = some (.int .i64 0) := blk_cell hr3 0
      have hr3f : w3.frozen? ⟨w.heap.size + 1, 0, none⟩ = false := blk_frozen hr3 0
      obtain ⟨cl, hcl⟩ : ∃ cl, cl = closedF (S.extract (q + 1) S.size).data.toList := ⟨_, rfl⟩
      rw [← hcl]
      have HCL := Lib.hid (show cl = closedF (t.drop (t.length - 22)) by
        rw [hcl]
        congr 1
        have h1 := HQ.out
        have h2 := HSZ.out
        rw [h2, HS.out, show t.length - 22 = q + 1 by omega]
        have h3 : List.take (t.length - (q + 1)) (List.drop (q + 1) t) = List.drop (q + 1) t := List.take_of_length_le (by rw [List.length_drop]; omega)
        simp [ByteArray.data_extract, List.extract, Bt, h3])
      have HB3 := Lib.hid hb3'
      have HO3 := Lib.hid ho3
      have HR3 := Lib.hid hr3
      clear hr2c hr2f hb3 hb3' ho3 hr3 hcl HB2 HO2 HR2 hs2 HCl
      cases cl with
      | false =>
        gi_wp2
        have hC : readC ok t = 360 := by
          unfold readC formB
          rw [← HCL.out]
          split
          · have := HQ.out
            have := HSZ.out
            have := of_decide_eq_false hd2
            omega
          · simp
        refine read_leaves _ _ (w.heap.size + 1) 360 rfl (blk_cell (blk_put HR3.out 0 (.int .i64 360) rfl) 0) ⟨by rw [hC], ?_, fun h => by rw [hC] at h; cases h⟩
        exact (HLow.out.trans (HB3.out.mono HLow.out.size)).setCell (p := ⟨w.heap.size + 1, 0, none⟩) (by have := HLow.out.size; show w0.heap.size ≤ w.heap.size + 1; omega) _
      | true =>
        have k0 : (0 : Int) ≤ (q : Int) := by omega
        have hwq : wrap64 (q : Int) = (q : Int) := by have := HQ.out; exact IntWalk.wrap64_in _ ⟨by omega, by omega⟩
        have hby : decide (t[q]? = some 10) = !(((S[q]'k1).toNat : Int) != 10) := by
          have h := byte_at S q k1 10
          have hd : S.data.toList = t := by rw [HS.out]; unfold Bt; simp
          rw [hd] at h
          rw [h]
          show _ = !(!(((S[q]'k1).toNat : Int) == 10))
          rw [Bool.not_not, Bool.eq_iff_iff, decide_eq_true_iff, beq_iff_eq]
          rfl
        obtain ⟨b10, h10⟩ : ∃ b, (((S[q]'k1).toNat : Int) != 10) = b := ⟨_, rfl⟩
        rw [h10] at hby
        have HBY := Lib.hid hby
        clear hby
        cases b10 with
        | true =>
          gi_wp2
          have hC : readC ok t = 360 := by
            have h1 := HQ.out
            unfold readC formB
            rw [show t.length - 23 = q by omega, HBY.out]
            split
            · have := HSZ.out
              have := of_decide_eq_false hd2
              omega
            · simp
          refine read_leaves _ _ (w.heap.size + 1) 360 rfl (blk_cell (blk_put HR3.out 0 (.int .i64 360) rfl) 0) ⟨by rw [hC], ?_, fun h => by rw [hC] at h; cases h⟩
          exact (HLow.out.trans (HB3.out.mono HLow.out.size)).setCell (p := ⟨w.heap.size + 1, 0, none⟩) (by have := HLow.out.size; show w0.heap.size ≤ w.heap.size + 1; omega) _
        | false =>
          have hnc : (w3.alloc (.cells #[.nilFunc] 23 (0, 0))).cell? ⟨w3.heap.size, 0, none⟩ = some .nilFunc := blk_cell (blk_new w3 _) 0
          have hnf : (w3.alloc (.cells #[.nilFunc] 23 (0, 0))).frozen? ⟨w3.heap.size, 0, none⟩ = false := blk_frozen (blk_new w3 _) 0
          gi_wp2
          refine ⟨trivial, (fun h => by cases h), (callsIn_wide.2 (bankLines_make _ _)).mono ?_⟩
          rintro e w5 ⟨rfl, hw5⟩
          obtain ⟨H, hH⟩ : ∃ H, H = w3.heap.size := ⟨_, rfl⟩
          have hfl : flatL (linesOf t) = t.take (q + 1) := by
            have h1 := HQ.out
            have h2 : t[q]? = some 10 := of_decide_eq_true (by rw [HBY.out]; rfl)
            unfold flatL linesOf
            rw [words_flat, show t.length - 23 = q by omega, List.take_add_one, h2]
            rfl
          have hex : S.extract 0 (q + 1) = Bt (flatL (linesOf t)) := by
            rw [hfl, HS.out]
            unfold Bt
            apply ByteArray.ext
            simp [ByteArray.data_extract, List.extract]
          have hb5 : Below w3.heap.size w3 w5 := by rw [hw5]; exact ((Below.refl _ w3).alloc (Nat.le_refl _) _).alloc (by simp) _
          have hh5 : w5.heap[H]? = some (.cells #[.func (.func g1) #[] lb1] 23 (0, 0)) := by rw [hw5, hH]; exact blk_alloc (blk_new w3 _) _
          have ht5 : w5.heap[H + 1]? = some (.cells #[.string (Bt (flatL (linesOf t)))] 9 (0, 0)) := by
            have h := blk_new (w3.alloc (.cells #[.func (.func g1) #[] lb1] 23 (0, 0))) (.cells #[.string (S.extract 0 (q + 1))] 9 (0, 0))
            rw [World.size_alloc, ← hH, ← hw5, hex] at h
            exact h
          have hs5 : w5.heap.size = H + 2 := by rw [hw5, hH]; simp
          have hsz5 : (w3.alloc (.cells #[.func (.func g1) #[] lb1] 23 (0, 0))).heap.size = H + 1 := by rw [hH]; simp
          rw [hsz5]
          have HB5 := Lib.hid (below_then HB3.out (HB3.out.size) hb5)
          have HO5 := Lib.hid ((hb5.block _ (by omega)).trans HO3.out)
          have HR5 := Lib.hid ((hb5.block _ (by omega)).trans HR3.out)
          have HH5 := Lib.hid hh5
          have HT5 := Lib.hid ht5
          have HS5 := Lib.hid hs5
          have HH := Lib.hid hH
          have HFL := Lib.hid hfl
          have hHge : w.heap.size + 2 ≤ H := by omega
          clear hw5 hb5 hh5 ht5 hs5 hsz5 hex hfl hr3c hr3f HO3 HR3 hnc hnf hH
          gi_wp2
          refine range_law (gf := 76) (lb := #[.pointer (some ⟨H + 1, 0, none⟩)]) rfl (enters_of Tryz.func76 (by kernel_rfl) rfl) (fun x : List UInt8 => #[.string (Bt x)]) (fun _ => rfl)
            (fun pre x => ∃ rest, linesOf t = pre ++ x :: rest) (fun xs => xs = linesOf t) (fun W1 => H + 8 ≤ W1.heap.size)
            (fun A B => OutR (H + 4) (H + 8) A B) (fun A B => A.heap.size ≤ B.heap.size ∧ ∀ k, H + 4 ≤ k → k < H + 8 → B.heap[k]? = A.heap[k]?)
            ?seq ?St ?Kt ?Kr ?Ex
            (fun pre W1 => I (H + 8) pre W1 ∧ allOk ok [] pre = true ∧ W1.heap[w.heap.size]? = some (.cells #[.func (.func g2) #[] lb2] 23 (0, 0)) ∧ W1.heap[w.heap.size + 1]? = some (.cells #[.int .i64 0] 33 (0, 0)) ∧ W1.heap[H]? = some (.cells #[if pre = [] then .func (.func g1) #[] lb1 else .func (.func g2) #[] lb2] 23 (0, 0)))
            (fun _ W1 => allOk ok [] (linesOf t) = false ∧ Below w0.heap.size w0 W1 ∧ W1.heap[w.heap.size + 1]? = some (.cells #[.int .i64 360] 33 (0, 0)))
            ?I0 ?Is ?Xs ?Ir ?Xr ?a1 ?assign ?body ?done ?stop
          case assign =>
            intro x W K hK
            gi_wp2
            exact hK
          case seq =>
            intro J Jx W1 hlow1 hsz1 hst hstx hy h0
            rw [HS5.out] at hsz1 hy
            have e1 : W1.heap.size = H + 4 := by omega
            refine (bankLines1_in (n - 1) (w5.heap.size + 1) (H + 1) (linesOf t) (fun p hp => words_no 10 _ p hp) (by rw [HFL.out, List.length_take]; omega) W1 J Jx (fun pre A B h ho => hst pre A B h (by rw [e1] at ho; exact ho)) ?_ (fun pre A B h ho => hstx pre A B h (by rw [e1] at ho; exact ho)) (blk_below HT5.out hlow1) h0).mono ?_
            · intro pre x rest W2 hp hj hsz2
              rw [e1] at hsz2
              rw [HS5.out]
              refine yield_any (YieldAt.mono (hy pre x W2 ⟨rest, hp⟩ hj hsz2) ?_)
              rintro e W' (⟨rfl, h1, h2, h3⟩ | ⟨rfl, h1, h2, h3⟩)
              · exact .inl ⟨rfl, h1, h2, by rw [e1]; exact h3⟩
              · exact .inr ⟨rfl, h1, by rw [e1]; exact h3⟩
            · rintro e W' ⟨hv, hj | hx⟩
              · exact ⟨hv, .inl ⟨_, rfl, hj⟩⟩
              · exact ⟨hv, .inr hx⟩
          case St =>
            intro A B h k hk
            rw [HS5.out] at hk
            exact h.same k (by omega)
          case Kt =>
            rintro A B C ⟨h1, h2⟩ ⟨h3, h4⟩
            exact ⟨Nat.le_trans h1 h3, fun k ha hb => (h4 k ha hb).trans (h2 k ha hb)⟩
          case Kr =>
            intro W1 o
            exact ⟨by simp, fun k ha hb => World.putObj_heap_other (by rw [HS5.out]; omega)⟩
          case Ex =>
            intro W1 o h
            simpa using h
          case I0 =>
            intro W1 hlow1 hsz1
            have hb := below_then HB5.out (by have := HS5.out; omega) hlow1
            refine ⟨HI0.out _ _ (by omega) hb, rfl, blk_below HO5.out hlow1, blk_below HR5.out hlow1, ?_⟩
            rw [if_pos rfl]
            exact blk_below HH5.out hlow1
          case Is =>
            rintro pre A B ⟨h1, h2, h3, h4, h5⟩ hs
            exact ⟨HIS.out _ _ _ _ h1 ⟨hs.os, hs.tape, hs.output, hs.size, fun k _ hk => hs.same k (by omega)⟩, h2, (hs.same _ (by omega)).trans h3, (hs.same _ (by omega)).trans h4, (hs.same _ (by omega)).trans h5⟩
          case Xs =>
            rintro pre A B ⟨h1, h2, h3⟩ hs
            have hw := HLow.out.size
            exact ⟨h1, h2.trans ⟨hs.os, hs.tape, hs.output, hs.size, fun k hk => hs.same k (by omega)⟩, (hs.same _ (by omega)).trans h3⟩
          case Ir =>
            rintro pre W1 o ⟨h1, h2, h3, h4, h5⟩
            have e := HS5.out
            exact ⟨HIS.out _ _ _ _ h1 (OutR.put _ _ _ _ _ (by omega) (by omega)).toN, h2, (World.putObj_heap_other (by omega)).trans h3, (World.putObj_heap_other (by omega)).trans h4, (World.putObj_heap_other (by omega)).trans h5⟩
          case Xr =>
            rintro pre W1 o ⟨h1, h2, h3⟩
            have e := HS5.out
            have hw := HLow.out.size
            exact ⟨h1, h2.trans ⟨rfl, rfl, rfl, by simp, fun k hk => World.putObj_heap_other (by omega)⟩, (World.putObj_heap_other (by omega)).trans h3⟩
          case body =>
            rintro pre x W1 ⟨rest, hp⟩ ⟨h1, h2, h3, h4, h5⟩ hsz1 hlt1
            have e5 := HS5.out
            have hwl := HLow.out.size
            obtain ⟨hpl, hxl⟩ := flatL_mid pre rest x
            rw [← hp, HFL.out, List.length_take] at hpl hxl
            have h48 := of_decide_eq_false hd2
            have hlt2 : t.length ≤ 1048576 := by have := HSZ.out; omega
            have hCl := HF.out (H + 8) pre x W1 (by omega) hsz1 (by omega) (by omega) h1
            obtain ⟨g, hg⟩ : ∃ g, g = if pre = [] then g1 else g2 := ⟨_, rfl⟩
            obtain ⟨lb, hlb⟩ : ∃ lb, lb = if pre = [] then lb1 else lb2 := ⟨_, rfl⟩
            have heng : ∀ args w, (callFunc g args).run Tryz.prog w = .ok (.enter g args) w := by rw [hg]; split; exact en1; exact en2
            have hfv : (if pre = [] then Value.func (.func g1) #[] lb1 else .func (.func g2) #[] lb2) = .func (.func g) #[] lb := by rw [hg, hlb]; split <;> rfl
            rw [hfv] at h5
            rw [← hg, ← hlb] at hCl
            have c8 : W1.cell? ⟨w3.heap.size, 0, none⟩ = some (.func (.func g) #[] lb) := by rw [← HH.out]; exact blk_cell h5 0
            have HCall := Lib.hid hCl
            have HW := Lib.hid (And.intro h2 (And.intro h3 (And.intro h4 h5)))
            have HP := Lib.hid hp
            have HE5 := Lib.hid e5
            have HB := Lib.hid (And.intro hwl (And.intro hsz1 (And.intro hlt1 hHge)))
            clear hCl h1 h2 h3 h4 h5 hp e5 hwl hsz1 hlt1 hHge hpl hxl h48 hlt2 hg hlb hfv en1 en2
            gi_wp2
            refine ⟨trivial, (fun h => by cases h), (CallsIn.inRound _ (callsIn_wide.2 HCall.out)).mono ?_⟩
            rintro e W2 ⟨rfl, hi2, hk2, hl2, hs2⟩
            have hB := HB.out
            have hr2 := (hk2 (w.heap.size + 1) (by omega) (by omega)).trans HW.out.2.2.1
            have ho2 := (hk2 w.heap.size (Nat.le_refl _) (by omega)).trans HW.out.2.1
            have hh2 := (hk2 H (by omega) (by omega)).trans HW.out.2.2.2
            have cr2 : W2.cell? ⟨w.heap.size + 1, 0, none⟩ = some (.int .i64 0) := blk_cell hr2 0
            have fr2 : W2.frozen? ⟨w.heap.size + 1, 0, none⟩ = false := blk_frozen hr2 0
            have co2 : W2.cell? ⟨w.heap.size, 0, none⟩ = some (.func (.func g2) #[] lb2) := blk_cell ho2 0
            have ch2 : W2.cell? ⟨w3.heap.size, 0, none⟩ = some (.func (.func g) #[] lb) := by rw [← HH.out]; exact blk_cell hh2 0
            have fh2 : W2.frozen? ⟨w3.heap.size, 0, none⟩ = false := by rw [← HH.out]; exact blk_frozen hh2 0
            have HR2 := Lib.hid hr2
            have HO2 := Lib.hid ho2
            have HH2 := Lib.hid hh2
            have HI2 := Lib.hid hi2
            have HK2 := Lib.hid hk2
            have HL2 := Lib.hid (And.intro hl2 hs2)
            obtain ⟨b1, hb1⟩ : ∃ b, b = ok pre x := ⟨_, rfl⟩
            rw [← hb1]
            have HB1 := Lib.hid hb1
            clear hr2 ho2 hh2 hi2 hk2 hl2 hs2 hB hb1 c8 heng
            cases b1 with
            | false =>
              gi_wp2
              have hB := HB.out
              have hE := HE5.out
              refine ⟨fun k hk => (Below.heap_setCell _ _ _ _ (by show k ≠ w.heap.size + 1; omega)).trans (HK2.out k (by omega) (by omega)), ⟨by simpa [World.setCell] using HL2.out.2, fun k ha hb => (Below.heap_setCell _ _ _ _ (by show k ≠ w.heap.size + 1; omega)).trans (HK2.out k (by omega) (by omega))⟩, ?_, ?_, blk_put HR2.out 0 (.int .i64 360) rfl⟩
              · rw [HP.out, allOk_append, HW.out.1, List.nil_append, allOk, ← HB1.out]
                rfl
              · exact HL2.out.1.setCell (p := ⟨w.heap.size + 1, 0, none⟩) (by show w0.heap.size ≤ w.heap.size + 1; omega) _
            | true =>
              gi_wp2
              have hB := HB.out
              have hE := HE5.out
              have hHH := HH.out
              rw [← HH.out]
              have hset : ∀ k, k ≠ H → (W2.setCell ⟨H, 0, none⟩ (.func (.func g2) #[] lb2)).heap[k]? = W2.heap[k]? := fun k hk => Below.heap_setCell _ _ _ _ hk
              refine ⟨fun k hk => (hset k (by omega)).trans (HK2.out k (by omega) (by omega)), ⟨by simpa [World.setCell] using HL2.out.2, fun k ha hb => (hset k (by omega)).trans (HK2.out k (by omega) (by omega))⟩, ?_, ?_, (hset _ (by omega)).trans HO2.out, (hset _ (by omega)).trans HR2.out, ?_⟩
              · exact HIS.out _ _ _ _ (HI2.out HB1.out.symm) (OutR.set _ _ _ _ _ _ (by omega) (by omega)).toN
              · rw [allOk_append, HW.out.1, List.nil_append, allOk, ← HB1.out]
                rfl
              · rw [if_neg (by simp)]
                exact blk_put HH2.out 0 _ rfl
          case done =>
            rintro xs W1 rfl ⟨h1, h2, h3, h4, h5⟩ hK
            have hxs : S.extract 0 (q + 1) = B (t.take (q + 1)) := by
              rw [HS.out]
              unfold Bt B
              apply ByteArray.ext
              simp [ByteArray.data_extract, List.extract]
            have hzs : (S.extract (q + 1) S.size).toList = t.drop (t.length - 22) := by
              have h1 := HQ.out
              rw [HS.out, Bt_size, show t.length - 22 = q + 1 by omega, ByteArray.toList_eq]
              have h3 : List.take (t.length - (q + 1)) (List.drop (q + 1) t) = List.drop (q + 1) t := List.take_of_length_le (by rw [List.length_drop]; omega)
              simp [ByteArray.data_extract, List.extract, Bt, h3]
            have hlt2 : t.length ≤ 1048576 := by have := HSZ.out; have := of_decide_eq_false hd2; omega
            obtain ⟨kk, hkk⟩ := bankEnd_ev (t.take (q + 1)) (by rw [List.length_take]; omega)
            obtain ⟨eq, heq⟩ : ∃ eq, eq = decide (t.drop (t.length - 22) = endL (t.take (t.length - 22))) := ⟨_, rfl⟩
            have hEnd : ∀ W', GG W' → Calls Tryz.prog 64 #[.string (S.extract 0 (q + 1))] W' fun e w' => ∃ y : ByteArray, e = .returned (.string y) ∧ ((S.extract (q + 1) S.size).toList == y.toList) = eq ∧ Below W'.heap.size W' w' := fun W' hG' => by
              rw [hxs]
              refine (bank_end.calls kk _ _ W' hG' (hkk kk (Nat.le_refl _))).mono ?_
              rintro e w' ⟨rfl, hb⟩
              refine ⟨_, rfl, ?_, hb⟩
              have h1 := HQ.out
              rw [hzs, B_list, heq, show t.length - 22 = q + 1 by omega, Bool.eq_iff_iff, beq_iff_eq, decide_eq_true_iff]
            have hC : readC ok t = if eq = true then 0 else 361 := by
              have h1 := HQ.out
              unfold readC
              rw [if_neg (by omega), if_pos (by unfold formB; rw [← HCL.out, show t.length - 23 = q by omega, HBY.out]; simp; omega), if_pos h2, heq]
              by_cases hh : t.drop (t.length - 22) = endL (t.take (t.length - 22))
              · rw [if_pos hh, decide_eq_true hh, if_pos rfl]
              · rw [if_neg hh, decide_eq_false hh, if_neg (by simp)]
            have HEnd := Lib.hid hEnd
            have HC := Lib.hid hC
            have HW := Lib.hid (And.intro h1 (And.intro h4 hK))
            have HGW := Lib.hid (HG0.out.below (HIL.out _ _ _ h1))
            have k5 : (0 : Int) ≤ (q : Int) + 1 := by omega
            have hw1l := Array.getElem?_eq_some_iff.1 hK |>.1
            have hr1c : W1.drew.cell? ⟨w.heap.size + 1, 0, none⟩ = some (.int .i64 0) := blk_cell (blk_drew h4) 0
            clear hxs hzs hkk heq hEnd hC h1 h2 h3 h4 h5 hK hlt2
            gi_wp2
            gi_region_with (first | (refine ⟨trivial, (fun h => by cases h), ?_⟩; gi_at_call 64; refine (callsIn_wide.2 (HEnd.out _ (HGW.out.below (below_drew (Below.refl _ _))))).mono ?_; rintro e w' ⟨y, rfl, hy, hb⟩))
            all_goals
              have hb' := (below_drew (Below.refl W1.heap.size W1)).trans hb
              have hr2 := (hb'.block _ (by have := HH.out; have := HS5.out; omega)).trans HW.out.2.1
              have hk2 := (hb'.block _ hw1l).trans HW.out.2.2
              have cr2 : w'.cell? ⟨w.heap.size + 1, 0, none⟩ = some (.int .i64 0) := blk_cell hr2 0
              have fr2 : w'.frozen? ⟨w.heap.size + 1, 0, none⟩ = false := blk_frozen hr2 0
              have HI2 := Lib.hid (HIS.out _ _ _ _ HW.out.1 (OutN.of_below w.heap.size (H + 8) hb'))
              have HR2 := Lib.hid hr2
              have HK2 := Lib.hid hk2
              clear hb hb' hr2 hk2 hr1c
              cases eq with
              | false =>
                gi_wp2
                have hwl := HLow.out.size
                have e5 := HS5.out
                have hC : readC ok t = 361 := HC.out
                refine ⟨by simp, .inl ⟨_, _, rfl, run_takeDeferred ((Below.heap_setCell _ _ _ _ (by show w5.heap.size ≠ w.heap.size + 1; omega)).trans HK2.out), ?_⟩⟩
                refine ⟨_, read_out _ _ (w.heap.size + 1) 361 rfl (blk_cell ((World.putObj_heap_other (by omega)).trans (blk_put HR2.out 0 (.int .i64 361) rfl)) 0), by rw [hC], ?_, fun h => by rw [hC] at h; cases h⟩
                exact ((HIL.out _ _ _ HI2.out).setCell (p := ⟨w.heap.size + 1, 0, none⟩) (by show w0.heap.size ≤ w.heap.size + 1; omega) _).trans ⟨rfl, rfl, rfl, by simp, fun k hk => World.putObj_heap_other (by omega)⟩
              | true =>
                gi_wp2
                have hwl := HLow.out.size
                have e5 := HS5.out
                have hC : readC ok t = 0 := HC.out
                refine ⟨by simp, .inl ⟨_, _, rfl, run_takeDeferred ((Below.heap_setCell _ _ _ _ (by show w5.heap.size ≠ w.heap.size + 1; omega)).trans HK2.out), ?_⟩⟩
                refine ⟨_, read_out _ _ (w.heap.size + 1) 0 rfl (blk_cell ((World.putObj_heap_other (by omega)).trans (blk_put HR2.out 0 (.int .i64 0) rfl)) 0), by rw [hC], ?_, fun _ => ⟨H + 8, by omega, ?_⟩⟩
                · exact ((HIL.out _ _ _ HI2.out).setCell (p := ⟨w.heap.size + 1, 0, none⟩) (by show w0.heap.size ≤ w.heap.size + 1; omega) _).trans ⟨rfl, rfl, rfl, by simp, fun k hk => World.putObj_heap_other (by omega)⟩
                · exact HIS.out _ _ _ _ (HIS.out _ _ _ _ HI2.out (OutR.set _ _ _ _ _ _ (by omega) (by omega)).toN) (OutR.put _ _ _ _ _ (by omega) (by omega)).toN
          case stop =>
            rintro pre W1 ⟨h1, h2, h3⟩ hK
            gi_wp2
            have hwl := HLow.out.size
            have e5 := HS5.out
            have hC : readC ok t = 360 := by
              unfold readC
              rw [h1]
              split
              · have := HSZ.out
                have := of_decide_eq_false hd2
                omega
              · simp
            refine ⟨by simp, .inl ⟨_, _, rfl, run_takeDeferred hK, ?_⟩⟩
            refine ⟨_, read_out _ _ (w.heap.size + 1) 360 rfl (blk_cell ((World.putObj_heap_other (by omega)).trans h3) 0), by rw [hC], ?_, fun h => by rw [hC] at h; cases h⟩
            exact h2.trans ⟨rfl, rfl, rfl, by simp, fun k hk => World.putObj_heap_other (by omega)⟩
end Go.Proofs.YtndojpcjhkncgaaGreatDoor.Q
end

section
namespace Go.Proofs.YtndojpcjhkncgaaGreatDoor.Q
open Go
set_option linter.unusedVariables false
set_option linter.unusedSimpArgs false
def sA : List UInt8 → Nat
  | [] => 0
  | c :: l => c.toNat + sA l
def sW : Nat → List UInt8 → Nat
  | _, [] => 0
  | i, c :: l => (i + 1) * c.toNat + sW (i + 1) l
theorem sums_eq : ∀ (l : List UInt8) (i a w : Nat), a < 4294967296 → w < 4294967296 → sums i a w l = ((a + sA l) % 4294967296, (w + sW i l) % 4294967296)
  | [], i, a, w, ha, hw => by
    unfold sums sA sW
    rw [Nat.add_zero, Nat.add_zero, Nat.mod_eq_of_lt ha, Nat.mod_eq_of_lt hw]
  | c :: l, i, a, w, ha, hw => by
    unfold sums sA sW
    rw [sums_eq l (i + 1) _ _ (Nat.mod_lt _ (by omega)) (Nat.mod_lt _ (by omega)), Nat.mod_add_mod, Nat.mod_add_mod, Nat.add_assoc, Nat.add_assoc]
theorem sums0 (l : List UInt8) : sums 0 0 0 l = (sA l % 4294967296, sW 0 l % 4294967296) := by
  rw [sums_eq l 0 0 0 (by omega) (by omega), Nat.zero_add, Nat.zero_add]
theorem end_fields (l : List UInt8) : ((endL l).drop 4).take 8 = hex8 (sA l % 4294967296) ∧ ((endL l).drop 13).take 8 = hex8 (sW 0 l % 4294967296) ∧ (endL l)[0]? = some 69 := by
  have h1 := hex8_len (sA l % 4294967296) (Nat.mod_lt _ (by omega))
  have h2 := hex8_len (sW 0 l % 4294967296) (Nat.mod_lt _ (by omega))
  unfold endL
  rw [sums0]
  show ((([69, 78, 68, 32] ++ hex8 (sA l % 4294967296) ++ [32] ++ hex8 (sW 0 l % 4294967296) ++ [10]).drop 4).take 8 = _) ∧ ((([69, 78, 68, 32] ++ hex8 (sA l % 4294967296) ++ [32] ++ hex8 (sW 0 l % 4294967296) ++ [10]).drop 13).take 8 = _) ∧ _
  generalize hex8 (sA l % 4294967296) = x at h1 ⊢
  generalize hex8 (sW 0 l % 4294967296) = y at h2 ⊢
  refine ⟨?_, ?_, rfl⟩
  · have e : (([69, 78, 68, 32] : List UInt8) ++ (x ++ ([32] ++ y ++ [10]))).drop 4 = x ++ ([32] ++ y ++ [10]) := List.drop_left' rfl
    rw [show [69, 78, 68, 32] ++ x ++ [32] ++ y ++ [10] = [69, 78, 68, 32] ++ (x ++ ([32] ++ y ++ [10])) by simp, e, List.take_left' h1]
  · have e : ((([69, 78, 68, 32] : List UInt8) ++ x ++ [32]) ++ (y ++ [10])).drop 13 = y ++ [10] := List.drop_left' (by simp [h1])
    rw [show [69, 78, 68, 32] ++ x ++ [32] ++ y ++ [10] = ([69, 78, 68, 32] ++ x ++ [32]) ++ (y ++ [10]) by simp, e, List.take_left' h2]
end Go.Proofs.YtndojpcjhkncgaaGreatDoor.Q
end

section
namespace Go.Proofs.YtndojpcjhkncgaaGreatDoor.Q
open Go Go.RowKit Go.Proofs.YtndojpcjhkncgaaGreatDoorW.PrintWords
set_option linter.unusedVariables false
set_option linter.unusedSimpArgs false
theorem readC_zero (ok : List (List UInt8) → List UInt8 → Bool) (t : List UInt8) : readC ok t = 0 ↔ t.length ≤ 1048576 ∧ formB t = true ∧ allOk ok [] (linesOf t) = true ∧ t.drop (t.length - 22) = endL (t.take (t.length - 22)) := by
  unfold readC
  constructor
  · intro h
    split at h
    · cases h
    · split at h
      · split at h
        · split at h
          · exact ⟨by omega, by assumption, by assumption, by assumption⟩
          · cases h
        · cases h
      · cases h
  · rintro ⟨h1, h2, h3, h4⟩
    rw [if_neg (by omega), if_pos h2, if_pos h3, if_pos h4]
theorem form_parts {t : List UInt8} (h : formB t = true) : 23 ≤ t.length ∧ closedF (t.drop (t.length - 22)) = true ∧ t[t.length - 23]? = some 10 := by
  unfold formB at h
  simp only [Bool.and_eq_true, decide_eq_true_iff] at h
  exact ⟨h.1, h.2.1, h.2.2⟩
theorem head_lines {t : List UInt8} (h : formB t = true) : t.take (t.length - 22) = flatL (linesOf t) := by
  obtain ⟨h1, _, h3⟩ := form_parts h
  unfold flatL linesOf
  rw [words_flat, show t.length - 22 = (t.length - 23) + 1 by omega, List.take_add_one, h3]
  rfl
theorem flatL_cons (l : List UInt8) (ls : List (List UInt8)) : flatL (l :: ls) = l ++ [10] ++ flatL ls := by unfold flatL; rw [List.flatMap_cons]
theorem scans_text (w : List UInt8) (hw : (32 : UInt8) ∉ w) (m : Nat) : ∀ (ls : List (List UInt8)) (rs : List (List Int)), scansF w m ls = some rs → flatL ls = rs.flatMap (lineL w) ∧ ∀ r ∈ rs, r.length = m ∧ ∀ n ∈ r, numIn n = true
  | [], rs, h => by
    cases h
    exact ⟨rfl, fun r hr => by cases hr⟩
  | l :: ls, rs, h => by
    rw [scansF] at h
    cases h1 : scanF l w m with
    | none => rw [h1] at h; cases h
    | some a =>
      cases h2 : scansF w m ls with
      | none => rw [h1, h2] at h; cases h
      | some s =>
        rw [h1, h2] at h
        cases h
        obtain ⟨e1, e2, e3⟩ := (scanF_iff l w hw m a).mp h1
        obtain ⟨e4, e5⟩ := scans_text w hw m ls s h2
        refine ⟨?_, fun r hr => ?_⟩
        · rw [flatL_cons, List.flatMap_cons, e4, e1]
          rfl
        · rcases List.mem_cons.mp hr with rfl | hr
          · exact ⟨e2, e3⟩
          · exact e5 r hr
theorem read_text (w1 w2 : List UInt8) (hw1 : (32 : UInt8) ∉ w1) (hw2 : (32 : UInt8) ∉ w2) (m1 m2 : Nat) (t : List UInt8) (h : readC (lineOk w1 m1 w2 m2) t = 0) :
    ∃ l ls a rs, linesOf t = l :: ls ∧ scanF l w1 m1 = some a ∧ scansF w2 m2 ls = some rs ∧ t = (lineL w1 a ++ rs.flatMap (lineL w2)) ++ endL (lineL w1 a ++ rs.flatMap (lineL w2)) ∧ a.length = m1 ∧ (∀ n ∈ a, numIn n = true) ∧ (∀ r ∈ rs, r.length = m2 ∧ ∀ n ∈ r, numIn n = true) ∧ t.length ≤ 1048576 := by
  obtain ⟨h1, h2, h3, h4⟩ := (readC_zero _ t).mp h
  obtain ⟨l, ls, hl⟩ : ∃ l ls, linesOf t = l :: ls := words_ne 10 _
  rw [hl, allOk_rows, rowsF] at h3
  cases e1 : scanF l w1 m1 with
  | none => rw [e1] at h3; cases h3
  | some a =>
    cases e2 : scansF w2 m2 ls with
    | none => rw [e1, e2] at h3; cases h3
    | some rs =>
      obtain ⟨p1, p2, p3⟩ := (scanF_iff l w1 hw1 m1 a).mp e1
      obtain ⟨p4, p5⟩ := scans_text w2 hw2 m2 ls rs e2
      refine ⟨l, ls, a, rs, hl, e1, e2, ?_, p2, p3, p5, h1⟩
      have hh : t.take (t.length - 22) = lineL w1 a ++ rs.flatMap (lineL w2) := by
        rw [head_lines h2, hl, flatL_cons, p4, p1]
        rfl
      rw [← hh, ← h4, List.take_append_drop]
theorem hex_all : ∀ (j n : Nat), (hexR j n).all hexB = true
  | 0, _ => rfl
  | j + 1, n => by
    rw [hexR, List.all_append, hex_all j]
    have h : ∀ k : Fin 16, hexB (dig k.val) = true := by decide
    have := h ⟨n % 16, Nat.mod_lt _ (by omega)⟩
    simpa using this
theorem closed_end (l : List UInt8) : closedF (endL l) = true := by
  have h1 := hex8_len (sA l % 4294967296) (Nat.mod_lt _ (by omega))
  have h2 := hex8_len (sW 0 l % 4294967296) (Nat.mod_lt _ (by omega))
  have a1 := hex_all 8 (sA l % 4294967296)
  have a2 := hex_all 8 (sW 0 l % 4294967296)
  rw [hexR_8 _ (Nat.mod_lt _ (by omega))] at a1 a2
  obtain ⟨f1, f2, _⟩ := end_fields l
  have he : endL l = [69, 78, 68, 32] ++ hex8 (sA l % 4294967296) ++ [32] ++ hex8 (sW 0 l % 4294967296) ++ [10] := by unfold endL; rw [sums0]
  have e12 : (endL l)[12]? = some 32 := by
    rw [he, List.getElem?_append_left (by simp [h1, h2]), List.getElem?_append_left (by simp [h1]), List.getElem?_append_right (by simp [h1])]
    simp [h1]
  have e21 : (endL l)[21]? = some 10 := by
    rw [he, List.getElem?_append_right (by simp [h1, h2])]
    simp [h1, h2]
  have e4 : (endL l).take 4 = [69, 78, 68, 32] := by rw [he]; rfl
  unfold closedF
  rw [e4, e12, e21, f1, f2, List.all_append, a1, a2]
  rfl
theorem words_of_flat (w : List UInt8) (ws : List (List UInt8)) (x : List UInt8) (hw : (10 : UInt8) ∉ w) (hws : ∀ y ∈ ws, (10 : UInt8) ∉ y) (h : flatL (w :: ws) = x ++ [10]) : wordsL 10 x = w :: ws := by
  have gen : ∀ (t : List (List UInt8)) (a : List UInt8), flatL (a :: t) = a ++ t.flatMap (fun x => 10 :: x) ++ [10] := by
    intro t
    induction t with
    | nil => intro a; simp [flatL]
    | cons b t ih =>
      intro a
      rw [flatL_cons, ih b, List.flatMap_cons]
      simp
  rw [gen ws w] at h
  have hx := (List.append_inj' h rfl).1
  rw [← hx]
  exact words_joined 10 ws w hw hws
theorem numsL_no (c : UInt8) (ns : List Int) (h : c ≠ 45) (h32 : c ≠ 32) (h2 : c.toNat < 48 ∨ 57 < c.toNat) : c ∉ numsL ns := by
  intro hm
  unfold numsL at hm
  obtain ⟨n, _, hn⟩ := List.mem_flatMap.mp hm
  rcases List.mem_cons.mp hn with e | e
  · exact h32 e
  · exact itoa_no c n h h2 e
theorem flat_lines (w1 w2 : List UInt8) (a : List Int) (rs : List (List Int)) : lineL w1 a ++ rs.flatMap (lineL w2) = flatL ((w1 ++ numsL a) :: rs.map (fun r => w2 ++ numsL r)) := by
  rw [flatL_cons]
  unfold flatL
  rw [List.flatMap_map]
  rfl
theorem text_lines (w1 w2 : List UInt8) (hw1 : (10 : UInt8) ∉ w1) (hw2 : (10 : UInt8) ∉ w2) (a : List Int) (rs : List (List Int)) :
    linesOf ((lineL w1 a ++ rs.flatMap (lineL w2)) ++ endL (lineL w1 a ++ rs.flatMap (lineL w2))) = (w1 ++ numsL a) :: rs.map (fun r => w2 ++ numsL r) ∧ formB ((lineL w1 a ++ rs.flatMap (lineL w2)) ++ endL (lineL w1 a ++ rs.flatMap (lineL w2))) = true ∧
      ∃ x, lineL w1 a ++ rs.flatMap (lineL w2) = x ++ [10] := by
  obtain ⟨x, hx⟩ : ∃ x, lineL w1 a ++ rs.flatMap (lineL w2) = x ++ [10] := by
    rw [flat_lines]
    have gen : ∀ (t : List (List UInt8)) (a : List UInt8), ∃ x, flatL (a :: t) = x ++ [10] := by
      intro t
      induction t with
      | nil => intro a; exact ⟨a, by simp [flatL]⟩
      | cons b t ih =>
        intro a
        obtain ⟨x, hx⟩ := ih b
        exact ⟨a ++ [10] ++ x, by rw [flatL_cons, hx]; simp⟩
    exact gen _ _
  have hH : lineL w1 a ++ rs.flatMap (lineL w2) = flatL ((w1 ++ numsL a) :: rs.map (fun r => w2 ++ numsL r)) := flat_lines w1 w2 a rs
  generalize lineL w1 a ++ rs.flatMap (lineL w2) = H at hx hH ⊢
  have hl : (H ++ endL H).length = x.length + 23 := by rw [List.length_append, endL_len, hx, List.length_append]; rfl
  have hlH : H.length = x.length + 1 := by rw [hx, List.length_append]; rfl
  refine ⟨?_, ?_, x, hx⟩
  · unfold linesOf
    rw [hl, Nat.add_sub_cancel, List.take_append_of_le_length (by omega), hx, List.take_left' rfl]
    refine words_of_flat _ _ x ?_ ?_ (by rw [← hH, hx])
    · intro hm
      rcases List.mem_append.mp hm with e | e
      · exact hw1 e
      · exact numsL_no 10 a (by decide) (by decide) (by decide) e
    · intro y hy hm
      obtain ⟨r, _, rfl⟩ := List.mem_map.mp hy
      rcases List.mem_append.mp hm with e | e
      · exact hw2 e
      · exact numsL_no 10 r (by decide) (by decide) (by decide) e
  · unfold formB
    rw [hl, show x.length + 23 - 22 = H.length by omega, List.drop_left' rfl, closed_end, show x.length + 23 - 23 = x.length by omega, List.getElem?_append_left (by omega), hx, List.getElem?_append_right (by omega), Nat.sub_self]
    simp
theorem scans_mk (w : List UInt8) (hw : (32 : UInt8) ∉ w) (m : Nat) : ∀ (rs : List (List Int)), (∀ r ∈ rs, r.length = m ∧ ∀ n ∈ r, numIn n = true) → scansF w m (rs.map (fun r => w ++ numsL r)) = some rs
  | [], _ => rfl
  | r :: rs, h => by
    rw [List.map_cons, scansF, scans_mk w hw m rs (fun r hr => h r (List.mem_cons_of_mem _ hr)), (scanF_iff _ w hw m r).mpr ⟨rfl, h r List.mem_cons_self⟩]
theorem text_read (w1 w2 : List UInt8) (hw1 : (32 : UInt8) ∉ w1) (hw2 : (32 : UInt8) ∉ w2) (h10 : (10 : UInt8) ∉ w1) (h11 : (10 : UInt8) ∉ w2) (m1 m2 : Nat) (a : List Int) (rs : List (List Int)) (ha : a.length = m1 ∧ ∀ n ∈ a, numIn n = true) (hr : ∀ r ∈ rs, r.length = m2 ∧ ∀ n ∈ r, numIn n = true)
    (hl : ((lineL w1 a ++ rs.flatMap (lineL w2)) ++ endL (lineL w1 a ++ rs.flatMap (lineL w2))).length ≤ 1048576) :
    readC (lineOk w1 m1 w2 m2) ((lineL w1 a ++ rs.flatMap (lineL w2)) ++ endL (lineL w1 a ++ rs.flatMap (lineL w2))) = 0 ∧
      linesOf ((lineL w1 a ++ rs.flatMap (lineL w2)) ++ endL (lineL w1 a ++ rs.flatMap (lineL w2))) = (w1 ++ numsL a) :: rs.map (fun r => w2 ++ numsL r) ∧ scanF (w1 ++ numsL a) w1 m1 = some a ∧ scansF w2 m2 (rs.map (fun r => w2 ++ numsL r)) = some rs := by
  obtain ⟨h1, h2, _⟩ := text_lines w1 w2 h10 h11 a rs
  have s1 := (scanF_iff (w1 ++ numsL a) w1 hw1 m1 a).mpr ⟨rfl, ha⟩
  have s2 := scans_mk w2 hw2 m2 rs hr
  refine ⟨(readC_zero _ _).mpr ⟨hl, h2, ?_, ?_⟩, h1, s1, s2⟩
  · rw [h1, allOk_rows, rowsF, s1, s2]
    rfl
  · rw [List.length_append, endL_len, Nat.add_sub_cancel, List.drop_left' rfl, List.take_left' rfl]
end Go.Proofs.YtndojpcjhkncgaaGreatDoor.Q
end

section
namespace Go.Proofs.YtndojpcjhkncgaaGreatDoor.Q
open Go.RowKit Go.Proofs.YtndojpcjhkncgaaGreatDoorW.PrintWords
set_option linter.unusedVariables false
set_option linter.unusedSimpArgs false
theorem okI_intOk {n : Int} (h : okI n) : intOk n = true := by unfold okI at h; simp [intOk]; omega
theorem order_okI {o : S47} (h : orderB o = true) : ∀ n ∈ [o.f0, o.f1, o.f2, o.f3, o.f4], okI n := by
  simp only [orderB, countB, Bool.and_eq_true, decide_eq_true_eq] at h
  unfold okI
  intro n hn
  simp only [List.mem_cons, List.not_mem_nil, or_false] at hn
  omega
theorem orders_mem : ∀ (l : List S47) (last tot : Int), ordersB last tot l = true → ∀ o ∈ l, orderB o = true
  | [], _, _, _, o, ho => by cases ho
  | x :: l, last, tot, h, o, ho => by
    simp only [ordersB, Bool.and_eq_true] at h
    rcases List.mem_cons.mp ho with rfl | ho
    · exact h.1
    · exact orders_mem l _ _ h.2.2.2 o ho
theorem head_okI {n d : Int} {L : List S47} (h : validB n d L = true) : ∀ m ∈ [n, d, (L.length : Int), netSum L], okI m := by
  obtain ⟨h0, h1, h2⟩ := valid_orders h
  have h3 := netSum_le L 0 0 (by omega) (by omega) h2
  simp only [datedB, countB, Bool.and_eq_true, decide_eq_true_eq] at h0
  unfold okI
  intro m hm
  simp only [List.mem_cons, List.not_mem_nil, or_false] at hm
  omega
theorem flat_len {α : Type} (f : α → List UInt8) (c : Nat) : ∀ (l : List α), (∀ x ∈ l, (f x).length ≤ c) → (l.flatMap f).length ≤ c * l.length
  | [], _ => by simp
  | x :: l, h => by
    have h1 := flat_len f c l (fun y hy => h y (List.mem_cons_of_mem _ hy))
    have h2 := h x (List.mem_cons_self)
    rw [List.flatMap_cons, List.length_append, List.length_cons, Nat.mul_add]
    omega
theorem orderL_len {o : S47} (h : orderB o = true) : (orderL o).length ≤ 116 := by
  have := lineL_len [111, 114, 100, 101, 114] _ (order_okI h)
  simpa [orderL] using this
theorem fileL_len {n d : Int} {L : List S47} (h : validB n d L = true) : (fileL n d L (netSum L)).length ≤ 92 + 116 * L.length := by
  obtain ⟨h0, h1, h2⟩ := valid_orders h
  have h3 := lineL_len [80, 65, 89] _ (head_okI h)
  have h4 := flat_len orderL 116 L (fun o ho => orderL_len (orders_mem L 0 0 h2 o ho))
  unfold fileL
  rw [List.length_append]
  simp only [List.length_cons, List.length_nil] at h3
  omega
theorem fits_valid {n d : Int} {L : List S47} (h : validB n d L = true) : fitsF n d L (netSum L) = true := by
  obtain ⟨h0, h1, h2⟩ := valid_orders h
  unfold fitsF
  rw [Bool.and_eq_true]
  refine ⟨List.all_eq_true.mpr fun m hm => okI_intOk (head_okI h m hm), List.all_eq_true.mpr fun o ho => List.all_eq_true.mpr fun m hm => okI_intOk (order_okI (orders_mem L 0 0 h2 o ho) m hm)⟩
def fileText (n d : Int) (L : List S47) : List UInt8 := fileL n d L (netSum L) ++ endL (fileL n d L (netSum L))
def writeS (n d : Int) (L : List S47) : ByteArray × Int := if validB n d L = true then (B (fileText n d L), 0) else (B [], 2)
theorem Write_ev (n d : Int) (L : List S47) (hL : (L.length : Int) ≤ 4611686018427387904) : Ev (fun k => bank_Write.f k n d L) (writeS n d L) := by
  unfold bank_Write.f writeS
  refine Ev.bind (Valid_ev n d L hL) ?_
  cases h : validB n d L with
  | false => exact Ev.neg (by simp) (Ev.now (B [], 2))
  | true =>
    have hl := fileL_len h
    have h1 := (valid_orders h).2.1
    refine Ev.pos rfl (Ev.bind (total_ev n d L h).1 (Ev.pos (fits_valid h) (Ev.bind (closed_ev _ (by omega)) ?_)))
    exact Ev.now (B (fileText n d L), 0)
theorem refWrite_l0 (n d : Int) (L : List S47) (h : validB n d L = true) (dd : Nat) : ∀ (i : Nat) (s : List UInt8), i + dd = L.length → s.length + 116 * dd ≤ 4398046511104 →
    Ev (fun k => annuitantref36_Write.l0 k (B s) (i : Int) n d L) (B ((s ++ (L.drop i).flatMap orderL) ++ endL (s ++ (L.drop i).flatMap orderL)), 0) := by
  obtain ⟨h0, h1, h2⟩ := valid_orders h
  induction dd with
  | zero =>
    intro i s hi hs
    rw [List.drop_eq_nil_of_le (by omega)]
    simp only [List.flatMap_nil, List.append_nil]
    refine Ev.step (fun k => by rw [annuitantref36_Write.l0]) (Ev.neg (by omega) (Ev.bind (refEnd_ev s (by omega)) (Ev.pos ?_ (Ev.ret ?_))))
    · rw [B_size, B_size, endL_len]; omega
    · rw [B_cat]
  | succ dd ih =>
    intro i s hi hs
    have hlt : i < L.length := by omega
    have ho := orders_mem L 0 0 h2 L[i] (List.getElem_mem hlt)
    have hl := orderL_len ho
    rw [drop_get L i hlt, List.flatMap_cons]
    refine Ev.step (fun k => by rw [annuitantref36_Write.l0]) (Ev.pos (by omega) (Ev.pos (by omega) ?_))
    rw [rdT L i hlt]
    refine Ev.bind (line_ev [111, 114, 100, 101, 114] _ (order_okI ho) (by simp) (by simp)) (Ev.pos ?_ ?_)
    · rw [B_size, B_size]
      unfold orderL at hl
      omega
    · rw [B_cat, w64 (by omega) (by omega)]
      refine Ev.eq (ih (i + 1) (s ++ orderL L[i]) (by omega) (by rw [List.length_append]; omega)) ?_
      rw [List.append_assoc s]
theorem refWrite_ev (n d : Int) (L : List S47) (hL : (L.length : Int) ≤ 4611686018427387904) : Ev (fun k => annuitantref36_Write.f k n d L) (writeS n d L) := by
  unfold annuitantref36_Write.f writeS
  refine Ev.bind (refValid_ev n d L hL) ?_
  cases h : validB n d L with
  | false => exact Ev.neg (by simp) (Ev.now (B [], 2))
  | true =>
    have h1 := (valid_orders h).2.1
    have h3 := lineL_len [80, 65, 89] _ (head_okI h)
    simp only [List.length_cons, List.length_nil] at h3
    refine Ev.pos rfl (Ev.bind (total_ev n d L h).2 (Ev.bind (line_ev [80, 65, 89] _ (head_okI h) (by simp) (by simp)) ?_))
    exact refWrite_l0 n d L h L.length 0 _ (by omega) (by omega)
theorem back_okI {o : S49} (h : backB o = true) : ∀ n ∈ [o.f0, o.f1], okI n := by
  simp only [backB, countB, Bool.and_eq_true, decide_eq_true_eq] at h
  unfold okI
  intro n hn
  simp only [List.mem_cons, List.not_mem_nil, or_false] at hn
  omega
theorem backs_mem : ∀ (l : List S49) (last : Int), backsB last l = true → ∀ o ∈ l, backB o = true
  | [], _, _, o, ho => by cases ho
  | x :: l, last, h, o, ho => by
    simp only [backsB, Bool.and_eq_true] at h
    rcases List.mem_cons.mp ho with rfl | ho
    · exact h.2.1
    · exact backs_mem l _ h.2.2 o ho
theorem right_parts {n d : Int} {L : List S49} (h : rightB n d L = true) : backsB 0 L = true ∧ datedB n d = true ∧ (L.length : Int) ≤ 1000 := by
  simp only [rightB, Bool.and_eq_true, decide_eq_true_eq] at h
  exact h
theorem headA_okI {n d : Int} {L : List S49} (h : rightB n d L = true) : ∀ m ∈ [n, d, (L.length : Int)], okI m := by
  obtain ⟨_, h0, h1⟩ := right_parts h
  simp only [datedB, countB, Bool.and_eq_true, decide_eq_true_eq] at h0
  unfold okI
  intro m hm
  simp only [List.mem_cons, List.not_mem_nil, or_false] at hm
  omega
theorem returnL_len {o : S49} (h : backB o = true) : (returnL o).length ≤ 51 := by
  have := lineL_len [114, 101, 116, 117, 114, 110] _ (back_okI h)
  simpa [returnL] using this
theorem answerL_len {n d : Int} {L : List S49} (h : rightB n d L = true) : (answerL n d L).length ≤ 71 + 51 * L.length := by
  obtain ⟨h2, h0, h1⟩ := right_parts h
  have h3 := lineL_len [66, 65, 67, 75] _ (headA_okI h)
  have h4 := flat_len returnL 51 L (fun o ho => returnL_len (backs_mem L 0 h2 o ho))
  unfold answerL
  rw [List.length_append]
  simp only [List.length_cons, List.length_nil] at h3
  omega
theorem fits_right {n d : Int} {L : List S49} (h : rightB n d L = true) : fitsA n d L = true := by
  obtain ⟨h2, h0, h1⟩ := right_parts h
  unfold fitsA
  rw [Bool.and_eq_true]
  refine ⟨List.all_eq_true.mpr fun m hm => okI_intOk (headA_okI h m hm), List.all_eq_true.mpr fun o ho => List.all_eq_true.mpr fun m hm => okI_intOk (back_okI (backs_mem L 0 h2 o ho) m hm)⟩
def answerText (n d : Int) (L : List S49) : List UInt8 := answerL n d L ++ endL (answerL n d L)
def answerS (n d : Int) (L : List S49) : ByteArray × Int := if rightB n d L = true then (B (answerText n d L), 0) else (B [], 2)
theorem WriteAnswer_ev (n d : Int) (L : List S49) (hL : (L.length : Int) ≤ 4611686018427387904) : Ev (fun k => bank_WriteAnswer.f k n d L) (answerS n d L) := by
  unfold bank_WriteAnswer.f answerS
  refine Ev.bind (Right_ev n d L hL) ?_
  cases h : rightB n d L with
  | false => exact Ev.neg (by simp) (Ev.now (B [], 2))
  | true =>
    have hl := answerL_len h
    have h1 := (right_parts h).2.2
    refine Ev.pos rfl (Ev.pos (fits_right h) (Ev.bind (closed_ev _ (by omega)) ?_))
    exact Ev.now (B (answerText n d L), 0)
theorem refAnswer_l0 (n d : Int) (L : List S49) (h : rightB n d L = true) (dd : Nat) : ∀ (i : Nat) (s : List UInt8), i + dd = L.length → s.length + 51 * dd ≤ 4398046511104 →
    Ev (fun k => annuitantref36_WriteAnswer.l0 k (B s) (i : Int) n d (L.map asRef)) (B ((s ++ (L.drop i).flatMap returnL) ++ endL (s ++ (L.drop i).flatMap returnL)), 0) := by
  obtain ⟨h2, h0, h1⟩ := right_parts h
  have hl : (L.map asRef).length = L.length := List.length_map ..
  induction dd with
  | zero =>
    intro i s hi hs
    rw [List.drop_eq_nil_of_le (by omega)]
    simp only [List.flatMap_nil, List.append_nil]
    refine Ev.step (fun k => by rw [annuitantref36_WriteAnswer.l0]) (Ev.neg (by omega) (Ev.bind (refEnd_ev s (by omega)) (Ev.pos ?_ (Ev.ret ?_))))
    · rw [B_size, B_size, endL_len]; omega
    · rw [B_cat]
  | succ dd ih =>
    intro i s hi hs
    have hlt : i < L.length := by omega
    have ho := backs_mem L 0 h2 L[i] (List.getElem_mem hlt)
    have hll := returnL_len ho
    rw [drop_get L i hlt, List.flatMap_cons]
    refine Ev.step (fun k => by rw [annuitantref36_WriteAnswer.l0]) (Ev.pos (by omega) (Ev.pos (by omega) ?_))
    rw [rdP (L.map asRef) i (by omega), List.getElem_map]
    refine Ev.bind (line_ev [114, 101, 116, 117, 114, 110] _ (back_okI ho) (by simp) (by simp)) (Ev.pos ?_ ?_)
    · rw [B_size, B_size]
      have hl2 : (lineL [114, 101, 116, 117, 114, 110] [(asRef L[i]).f0, (asRef L[i]).f1]).length ≤ 51 := hll
      omega
    · rw [B_cat, w64 (by omega) (by omega)]
      refine Ev.eq (ih (i + 1) (s ++ returnL L[i]) (by omega) (by rw [List.length_append]; omega)) ?_
      rw [List.append_assoc s]
theorem refAnswer_ev (n d : Int) (L : List S49) (hL : (L.length : Int) ≤ 4611686018427387904) : Ev (fun k => annuitantref36_WriteAnswer.f k n d (L.map asRef)) (answerS n d L) := by
  unfold annuitantref36_WriteAnswer.f answerS
  refine Ev.bind (refRight_ev n d L hL) ?_
  cases h : rightB n d L with
  | false => exact Ev.neg (by simp) (Ev.now (B [], 2))
  | true =>
    have h1 := (right_parts h).2.2
    have h3 := lineL_len [66, 65, 67, 75] _ (headA_okI h)
    simp only [List.length_cons, List.length_nil] at h3
    rw [List.length_map]
    refine Ev.pos rfl (Ev.bind (line_ev [66, 65, 67, 75] _ (headA_okI h) (by simp) (by simp)) ?_)
    exact refAnswer_l0 n d L h L.length 0 _ (by omega) (by omega)
end Go.Proofs.YtndojpcjhkncgaaGreatDoor.Q
end

section
namespace Go.Proofs.YtndojpcjhkncgaaGreatDoor.Q
open Go Go.RowKit Go.Proofs.YtndojpcjhkncgaaGreatDoorW.PrintWords Go.Proofs.YtndojpcjhkncgaaGreatDoorW.PrintLast Go.Proofs.YtndojpcjhkncgaaGreatDoorW.PrintMore
set_option linter.unusedVariables false
set_option linter.unusedSimpArgs false
theorem owns_keep {w w' : World} {base : Nat} {e : TypeId} {size : Nat} {v : Value} {n : Nat} {xs : List Value} (h : w.ownsRow base e size v n xs) (hk : ∀ k, base ≤ k → k < w.heap.size → w'.heap[k]? = w.heap[k]?) : w'.ownsRow base e size v n xs := by
  refine ⟨h.1, ?_⟩
  rcases h.2 with h2 | ⟨g, cap, cur, h1, h2, h3, h4⟩
  · exact .inl h2
  · exact .inr ⟨g, cap, cur, h1, h2, (hk g h2 (blk_lt h3)).trans h3, h4⟩
theorem owns_ne {w : World} {base : Nat} {e : TypeId} {size : Nat} {v : Value} {n : Nat} {xs : List Value} (h : w.ownsRow base e size v n xs) (k : Nat) (hk : k < base) : some k ≠ v.ownBlock := by
  rcases h.2 with ⟨h1, _⟩ | ⟨g, cap, cur, h1, h2, _⟩
  · rw [h1]
    exact fun e => by cases e
  · rw [h1]
    intro e
    have : k = g := by injection e
    omega
theorem set_at {α : Type} (xs ys : List α) (i : Nat) (v : α) : (xs ++ ys).set (xs.length + i) v = xs ++ ys.set i v := by
  rw [List.set_append_right _ _ (by omega), Nat.add_sub_cancel_left]
theorem owns_set5 {W : World} {base g cap n : Nat} {xs zs : List Value} {t : TypeId} (h : W.ownsRow base t 5 (.slice (some ⟨g, 0, none⟩) (n + 1) cap) (n + 1) (xs ++ zs)) (hx : xs.length = n * 5) (ns : List Int) (hn : ns.length = 5) :
    (setAll W ([(g, n * 5), (g, n * 5 + 1), (g, n * 5 + 2), (g, n * 5 + 3), (g, n * 5 + 4)].zip ns)).ownsRow base t 5 (.slice (some ⟨g, 0, none⟩) (n + 1) cap) (n + 1) (xs ++ ns.map (Value.int .i64)) := by
  obtain ⟨x0, x1, x2, x3, x4, rfl⟩ : ∃ x0 x1 x2 x3 x4, ns = [x0, x1, x2, x3, x4] := by
    match ns, hn with
    | [x0, x1, x2, x3, x4], _ => exact ⟨x0, x1, x2, x3, x4, rfl⟩
  have hz : zs.length = 5 := by
    have := h.1
    rw [List.length_append, hx] at this
    omega
  rcases h.2 with ⟨h0, _⟩ | ⟨g', cap', cur, he, hb, hg, h1, h2, h3, h4⟩
  · cases h0
  · obtain ⟨rfl, rfl⟩ : g = g' ∧ cap = cap' := by injection he with e1 e2 e3; injection e1 with e1; injection e1 with e1; exact ⟨e1, e3⟩
    obtain ⟨rest, hr⟩ : ∃ rest, cur.toList = xs ++ zs ++ rest := ⟨cur.toList.drop ((n + 1) * 5), by rw [← h4, List.take_append_drop]⟩
    obtain ⟨z0, z1, z2, z3, z4, rfl⟩ : ∃ z0 z1 z2 z3 z4, zs = [z0, z1, z2, z3, z4] := by
      match zs, hz with
      | [z0, z1, z2, z3, z4], _ => exact ⟨z0, z1, z2, z3, z4, rfl⟩
    refine ⟨by simp [hx]; omega, .inr ⟨g, cap, _, rfl, hb, blk_put (blk_put (blk_put (blk_put (blk_put hg (n * 5) (.int .i64 x0) rfl) (n * 5 + 1) (.int .i64 x1) rfl) (n * 5 + 2) (.int .i64 x2) rfl) (n * 5 + 3) (.int .i64 x3) rfl) (n * 5 + 4) (.int .i64 x4) rfl, h1, h2, by simp [h3], ?_⟩⟩
    simp only [Array.toList_setIfInBounds]
    rw [hr, ← hx, List.append_assoc]
    have e0 := set_at xs ([z0, z1, z2, z3, z4] ++ rest) 0 (.int .i64 x0)
    rw [Nat.add_zero] at e0
    rw [e0, set_at, set_at, set_at, set_at]
    have hl : (n + 1) * 5 = (xs ++ [Value.int .i64 x0, .int .i64 x1, .int .i64 x2, .int .i64 x3, .int .i64 x4]).length := by rw [List.length_append, hx]; simp; omega
    rw [hl]
    show List.take _ (xs ++ ([Value.int .i64 x0, .int .i64 x1, .int .i64 x2, .int .i64 x3, .int .i64 x4] ++ rest)) = _
    rw [← List.append_assoc, List.take_left']
    · rfl
    · rfl
set_option maxHeartbeats 1000000 in
set_option maxRecDepth 100000 in
theorem read2_go (l : List UInt8) (hl : l.length ≤ 1048576) (w0 w : World) (hG0 : GG w0) (hlow : Below w0.heap.size w0 w) (bf base : Nat) (a b v : Value) (n : Nat) (xs : List Value)
    (hf : w.heap[bf]? = some (.cells #[a, b, v] 27 (0, 0))) (b1 : w0.heap.size ≤ bf) (b2 : bf < base) (b3 : base ≤ w.heap.size) (hn : n ≤ 1048576) (hown : w.ownsRow base 47 5 v n xs) :
    Calls Tryz.prog 50 #[.string (Bt l), .pointer (some ⟨bf, 0, none⟩)] w fun e w' =>
      ∃ v', e = .returned (.bool (scanF l orderW 5).isSome) ∧ (∀ ns, scanF l orderW 5 = some ns → w'.ownsRow base 47 5 v' (n + 1) (xs ++ ns.map (Value.int .i64))) ∧
        w'.heap[bf]? = some (.cells #[a, b, v'] 27 (0, 0)) ∧ (∀ k, k < base → k ≠ bf → w'.heap[k]? = w.heap[k]?) ∧ Below w0.heap.size w0 w' ∧ w.heap.size ≤ w'.heap.size := by
  have lf := blk_lt hf
  have c2 : w.cell? ⟨bf, 2, none⟩ = some v := blk_cell hf 2
  obtain ⟨i0, hi, hz0, hz1, hz2⟩ := info_parts info47
  have HO := Lib.hid hown
  have HL := Lib.hid hlow
  have HF := Lib.hid hf
  clear hown hlow hf
  go_enter Tryz.func50, Tryz.ntmps50
  go_wp2_with (at_builtin; refine wpList_append_lies _ rfl _ _ 25 rfl base 47 i0 _ 5 40 Tryz.underlying25 hi hz0 hz1 hz2 rfl (by decide) v n xs rfl (owns_keep HO.out (fun k _ hk => (below_alloc (below_alloc (Below.refl w.heap.size w) _) _).block k hk)) ⟨w.heap.size + 1, 0, none⟩ 1 1 [.int .i64 0, .int .i64 0, .int .i64 0, .int .i64 0, .int .i64 0] ?c1 rfl ?c2 ?c3 (by decide) ?c4 ?c5 ?c6 _ rfl ?_)
  case c1 => rfl
  case c2 => exact World.news_of_block (B := w.heap.size + 1) (cs := #[.int .i64 0, .int .i64 0, .int .i64 0, .int .i64 0, .int .i64 0]) (by rw [← World.size_alloc w (.cells #[.int .i64 0, .int .i64 0, .int .i64 0, .int .i64 0, .int .i64 0] 47)]; exact blk_new _ _)
  case c3 => intro u hu; simp at hu; subst hu; rfl
  case c4 => unfold maxLen; omega
  case c5 => omega
  case c6 => simp; omega
  intro g cap w1 hown1 hgrow hat hlt
  have hb0 := below_alloc (below_alloc (Below.refl w.heap.size w) (.cells #[.int .i64 0, .int .i64 0, .int .i64 0, .int .i64 0, .int .i64 0] 47)) (.cells #[.int .i64 0, .int .i64 0, .int .i64 0, .int .i64 0, .int .i64 0] 47)
  have hf1 : w1.heap[bf]? = some (.cells #[a, b, v] 27 (0, 0)) := (hgrow.block bf (by simp; omega) (owns_ne HO.out bf b2)).trans ((hb0.block bf lf).trans HF.out)
  have hk1 : ∀ k, k < base → w1.heap[k]? = w.heap[k]? := fun k hk => (hgrow.block k (by simp; omega) (owns_ne HO.out k hk)).trans (hb0.block k (by omega))
  have hl1 : Below w0.heap.size w0 w1 := HL.out.trans ⟨hgrow.os.trans hb0.os, hgrow.tape.trans hb0.tape, hgrow.output.trans hb0.output, Nat.le_trans hb0.size hgrow.size, fun k hk => hk1 k (by omega)⟩
  have hs1 : w.heap.size ≤ w1.heap.size := Nat.le_trans hb0.size hgrow.size
  obtain ⟨v', hv'⟩ : ∃ v' : Value, v' = .slice (some ⟨g, 0, none⟩) (n + 1) cap := ⟨_, rfl⟩
  have d2 : w1.cell? ⟨bf, 2, none⟩ = some v := blk_cell hf1 2
  have f2 : w1.frozen? ⟨bf, 2, none⟩ = false := blk_frozen hf1 2
  have hf2 := blk_put hf1 2 (.slice (some ⟨g, 0, none⟩) (n + 1) cap) rfl
  have e2 : (w1.setCell ⟨bf, 2, none⟩ (.slice (some ⟨g, 0, none⟩) (n + 1) cap)).cell? ⟨bf, 2, none⟩ = some (.slice (some ⟨g, 0, none⟩) (n + 1) cap) := blk_cell hf2 2
  have HO1 := Lib.hid hown1
  have HK1 := Lib.hid hk1
  have HL1 := Lib.hid hl1
  have HS1 := Lib.hid hs1
  have HF2 := Lib.hid hf2
  have HG := Lib.hid hlt
  clear hown1 hgrow hat hb0 hk1 hl1 hs1 hf2 hf1 c2 hlt HO HL HF hi hz0 hz1 hz2
  have k1 : wrap64 (((n + 1 : Nat) : Int) - 1) = (n : Int) := by rw [IntWalk.wrap64_in _ ⟨by omega, by omega⟩]; omega
  have k2 : (n : Int) < ((n + 1 : Nat) : Int) := by omega
  have k3 : (0 : Int) ≤ (n : Int) := by omega
  go_wp2_with fail
  have own2 : (w1.setCell ⟨bf, 2, none⟩ (.slice (some ⟨g, 0, none⟩) (n + 1) cap)).ownsRow base 47 5 (.slice (some ⟨g, 0, none⟩) (n + 1) cap) (n + 1) (xs ++ [.int .i64 0, .int .i64 0, .int .i64 0, .int .i64 0, .int .i64 0]) :=
    owns_keep HO1.out (fun k hk _ => Below.heap_setCell _ _ _ _ (by show k ≠ bf; omega))
  have hk2 : ∀ k, k < base → k ≠ bf → (w1.setCell ⟨bf, 2, none⟩ (.slice (some ⟨g, 0, none⟩) (n + 1) cap)).heap[k]? = w.heap[k]? := fun k hk hne => (Below.heap_setCell _ _ _ _ hne).trans (HK1.out k hk)
  have hl2 : Below w0.heap.size w0 (w1.setCell ⟨bf, 2, none⟩ (.slice (some ⟨g, 0, none⟩) (n + 1) cap)) := HL1.out.setCell (p := ⟨bf, 2, none⟩) b1 _
  have hs2 : w.heap.size ≤ (w1.setCell ⟨bf, 2, none⟩ (.slice (some ⟨g, 0, none⟩) (n + 1) cap)).heap.size := by simpa [World.setCell] using HS1.out
  have hf2 : (w1.setCell ⟨bf, 2, none⟩ (.slice (some ⟨g, 0, none⟩) (n + 1) cap)).heap[bf]? = some (.cells #[a, b, .slice (some ⟨g, 0, none⟩) (n + 1) cap] 27 (0, 0)) := HF2.out
  clear HO1 HK1 HL1 HS1 HF2 d2 f2 e2 HG
  generalize w1.setCell ⟨bf, 2, none⟩ (.slice (some ⟨g, 0, none⟩) (n + 1) cap) = w2 at own2 hk2 hl2 hs2 hf2 ⊢
  obtain ⟨hxl, hbg, cur, hcur, hcs⟩ : xs.length = n * 5 ∧ base ≤ g ∧ ∃ cur, w2.heap[g]? = some (.cells cur 47 (0, 0)) ∧ n * 5 + 5 ≤ cur.size := by
    have h0 := own2.1
    rw [List.length_append] at h0
    simp only [List.length_cons, List.length_nil] at h0
    rcases own2.2 with ⟨h1, _⟩ | ⟨g', cap', cur, he, hb, hg, h1, h2, h3, h4⟩
    · cases h1
    · obtain ⟨rfl, rfl⟩ : g = g' ∧ cap = cap' := by injection he with e1 e2 e3; injection e1 with e1; injection e1 with e1; exact ⟨e1, e3⟩
      exact ⟨by omega, hb, cur, hg, by rw [h3]; omega⟩
  have hS : Calls Tryz.prog 49 #[.string (Bt l), .string ⟨#[111, 114, 100, 101, 114]⟩, .slice (some ⟨w2.heap.size, 0, none⟩) 5 5] (w2.drew.alloc (.cells #[.pointer (some ⟨g, n * 5, none⟩), .pointer (some ⟨g, n * 5 + 1, none⟩), .pointer (some ⟨g, n * 5 + 2, none⟩), .pointer (some ⟨g, n * 5 + 3, none⟩), .pointer (some ⟨g, n * 5 + 4, none⟩)] 90 (0, 0))) _ :=
    scan_go l orderW hl [(g, n * 5), (g, n * 5 + 1), (g, n * 5 + 2), (g, n * 5 + 3), (g, n * 5 + 4)] (by show 5 ≤ 100; decide) w2.drew.heap.size w0 _ hG0 (below_alloc hl2.drew _) (blk_new w2.drew _) (by
      intro p hp
      have hg := blk_lt hcur
      simp only [List.mem_cons, List.not_mem_nil, or_false] at hp
      have : p.1 = g ∧ p.2 < n * 5 + 5 := by rcases hp with rfl | rfl | rfl | rfl | rfl <;> exact ⟨rfl, by simp⟩
      obtain ⟨e1, e2⟩ := this
      rw [e1]
      exact ⟨by show g ≠ w2.heap.size; omega, by omega, cur, _, blk_alloc (blk_drew hcur) _, by omega⟩)
  have HS := Lib.hid hS
  have HO2 := Lib.hid own2
  have HK2 := Lib.hid hk2
  have HL2 := Lib.hid hl2
  have HS2 := Lib.hid hs2
  have HF2 := Lib.hid hf2
  have HC := Lib.hid (And.intro hxl (And.intro hbg (blk_lt hcur)))
  clear hS own2 hk2 hl2 hs2 hf2 hxl hbg hcur hcs k1 k2 k3
  go_region_with (go_at_call 49; refine HS.out.mono ?_; rintro e w' ⟨ms, rfl, hm1, hm2, hb⟩)
  have hx : ∀ x ∈ [(g, n * 5), (g, n * 5 + 1), (g, n * 5 + 2), (g, n * 5 + 3), (g, n * 5 + 4)].zip ms, x.1.1 = g := by
    intro x hx
    have hx := (List.of_mem_zip hx).1
    simp only [List.mem_cons, List.not_mem_nil, or_false] at hx
    rcases hx with e | e | e | e | e <;> rw [e]
  have hC := HC.out
  have hB : Below w2.heap.size (setAll w2 ([(g, n * 5), (g, n * 5 + 1), (g, n * 5 + 2), (g, n * 5 + 3), (g, n * 5 + 4)].zip ms)) w' :=
    (setAll_both _ (below_alloc (below_drew (Below.refl w2.heap.size w2)) _) (fun x h => by rw [hx x h]; exact hC.2.2)).trans (hb.mono (by simp))
  have q1 : ∀ ns, scanF l orderW 5 = some ns → w'.ownsRow base 47 5 (.slice (some ⟨g, 0, none⟩) (n + 1) cap) (n + 1) (xs ++ ns.map (Value.int .i64)) := fun ns h => by
    have e := hm2 ns h
    subst e
    exact owns_keep (owns_set5 HO2.out hC.1 ms (scanF_len _ _ _ _ h)) (fun k _ hk => hB.block k (by rwa [setAll_size] at hk))
  have q2 : ∀ k, k < base → w'.heap[k]? = w2.heap[k]? := fun k hk => (hB.block k (by omega)).trans (setAll_other _ _ _ (fun x h => by rw [hx x h]; omega))
  have q3 : Below w0.heap.size w0 w' := (HL2.out.trans (setAll_below _ _ _ (fun x h => by rw [hx x h]; omega))).trans (hB.mono (by have := HL2.out.size; omega))
  have q4 : w.heap.size ≤ w'.heap.size := by have h1 := HS2.out; have h2 := hB.size; rw [setAll_size] at h2; omega
  have Q := Lib.hid (And.intro q1 (And.intro ((q2 bf b2).trans HF2.out) (And.intro (fun k (hk : k < base) (hne : k ≠ bf) => (q2 k hk).trans (HK2.out k hk hne)) (And.intro q3 q4))))
  clear hx hC hB q1 q2 q3 q4 hm1 hm2 hb HS HO2 HK2 HL2 HS2 HF2 HC
  go_wp2_with fail
  go_ret
  refine ⟨.slice (some ⟨g, 0, none⟩) (n + 1) cap, by simp [Act.put], Q.out⟩
end Go.Proofs.YtndojpcjhkncgaaGreatDoor.Q
end
