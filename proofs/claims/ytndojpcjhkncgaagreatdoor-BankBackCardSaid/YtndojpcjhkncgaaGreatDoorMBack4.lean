/- Part 4 of a proof: the texts QFlaw36BankBack, SBackL, Open, OpenB, LaidZ, put together by a program of this repo. -/
import Derived.ProofKit
import Derived.SizedLaws
import Derived.Deep.Slices
import Derived.OpenShut
import Derived.Test.YtndojpcjhkncgaaGreatDoorRows
import Derived.Lib.LaidTab
import Derived.LaidMore
import Derived.LaidHandle
import Derived.MakeChecks
import Derived.Stop.LaidErr
import Derived.Shelf.Vars
import Derived.Test.YtndojpcjhkncgaaGreatDoorMBack1
import Derived.Test.YtndojpcjhkncgaaGreatDoorMBack2
import Derived.Test.YtndojpcjhkncgaaGreatDoorMBack3

section
namespace Go.Proofs.YtndojpcjhkncgaaGreatDoor.Q
open Go.RowKit Go.Proofs.YtndojpcjhkncgaaGreatDoorW.PrintWords Go.Proofs.YtndojpcjhkncgaaGreatDoorW.PrintLast Go.Proofs.YtndojpcjhkncgaaGreatDoorW.PrintMore
attribute [local go_sem] max2_int min2_int max_two min_two max_three min_three max_four min_four   -- for this text's walks alone
set_option linter.unusedVariables false
set_option linter.unusedSimpArgs false
mutual
def annuitantlaw36_BankBack.j0 : Nat → Bool → Int → Int → List (S47) → Int → Int → List (S49) → Option (Bool)
 | 0, _, _, _, _, _, _, _ => none
 | k + 1, x31, x607000, x607001, x607002, x608000, x608001, x608002 => if x31 = true then (some true) else ((bank_Valid.f k x607000 x607001 x607002).bind fun t609 => (if t609 = true then ((bank_Write.f k x607000 x607001 x607002).bind fun bt610 => ((bank_Read.f k bt610.1).bind fun bt612 => ((bank_ReadAnswer.f k bt610.1).bind fun bt619 => ((bank_Total.f k x607000 x607001 x607002).bind fun bt626 => (annuitantlaw36_BankBack.l0 k bt610.2 bt612.2.2.2 bt619.2.2.2 bt626.1 bt626.2 0 x607000 x607001 x607002 x608000 x608001 x608002 bt612.1 bt612.2.1 bt612.2.2.1))))) else (annuitantlaw36_BankBack.j2 k x608000 x608001 x608002)))
def annuitantlaw36_BankBack.j2 : Nat → Int → Int → List (S49) → Option (Bool)
 | 0, _, _, _ => none
 | k + 1, x608000, x608001, x608002 => (bank_Right.f k x608000 x608001 x608002).bind fun t640 => (if t640 = true then ((bank_WriteAnswer.f k x608000 x608001 x608002).bind fun bt641 => ((bank_ReadAnswer.f k bt641.1).bind fun bt643 => ((bank_Read.f k bt641.1).bind fun bt650 => (if bt641.2 = 0 then (if bt643.2.2.2 = 0 then (if bt650.2.2.2 = 360 then ((annuitantlaw36_old.f k x608000 x608001 x608002).bind fun bt657 => ((annuitantlaw36_old.f k bt643.1 bt643.2.1 bt643.2.2.1).bind fun bt662 => ((annuitantlaw36_sameAnswer.f k bt657.1 bt657.2.1 bt657.2.2 bt662.1 bt662.2.1 bt662.2.2).bind fun t667 => (some t667)))) else (some false)) else (some false)) else (some false))))) else (some true))
def annuitantlaw36_BankBack.l0 : Nat → Int → Int → Int → Int → Int → Int → Int → Int → List (S47) → Int → Int → List (S49) → Int → Int → List (S47) → Option (Bool)
 | 0, _, _, _, _, _, _, _, _, _, _, _, _, _, _, _ => none
 | k + 1, x6, x8, x10, x11, x12, x13, x607000, x607001, x607002, x608000, x608001, x608002, x619000, x619001, x619002 => if x13 < (x607002.length : Int) then (if 0 ≤ x13 then (annuitantlaw36_BankBack.l0 k x6 x8 x10 (wrap64 (x11 - ((rd_T47 x607002 x13).f4))) x12 (wrap64 (x13 + 1)) x607000 x607001 x607002 x608000 x608001 x608002 x619000 x619001 x619002) else (none)) else (if x6 = 0 then (if x8 = 0 then (if x10 = 360 then (if x12 = 0 then (if x11 = 0 then ((annuitantlaw36_plain.f x607000 x607001 x607002).bind fun bt629 => ((annuitantlaw36_plain.f x619000 x619001 x619002).bind fun bt634 => ((annuitantlaw36_sameFile.f k bt629.1 bt629.2.1 bt629.2.2 bt634.1 bt634.2.1 bt634.2.2).bind fun t639 => (if t639 = true then (annuitantlaw36_BankBack.j2 k x608000 x608001 x608002) else (some false))))) else (some false)) else (some false)) else (some false)) else (some false)) else (some false))
end
def annuitantlaw36_BankBack.f (k : Nat) (a0_0 : Int) (a0_1 : Int) (l0_2 : List (S47)) (a1_0 : Int) (a1_1 : Int) (l1_2 : List (S49)) : Option (Bool) := (annuitantlaw36_awake.f k).bind fun t608 => (if t608 = true then (if (l0_2.length : Int) > 100 then (annuitantlaw36_BankBack.j0 k true a0_0 a0_1 l0_2 a1_0 a1_1 l1_2) else (annuitantlaw36_BankBack.j0 k (decide ((l1_2.length : Int) > 100)) a0_0 a0_1 l0_2 a1_0 a1_1 l1_2)) else (some false))
def annuitantlaw36_BankBack.T14 : Bool × List (List Nat × List Nat) := (true, [([], []), ([0], [0]), ([1], [1]), ([2], [2]), ([3, 2], [2, 3]), ([2, 4], [2, 4]), ([5, 2], [5]), ([6], [6]), ([7, 6], [6, 7]), ([6, 8], [6, 8]), ([9, 6], [9]), ([10], [10]), ([11, 10], [10, 11]), ([10, 12], [10, 12]), ([13, 10], [13]), ([14], [14]), ([15, 14], [14, 15]), ([14, 16], [14, 16]), ([17, 14], [17]), ([18], [18]), ([19, 18, 18], [18, 19]), ([18], [18]), ([21, 20, 18], [18, 21]), ([20, 22, 22, 18], [18, 20, 22]), ([23, 18], [18, 23]), ([18, 24], [18, 24])])
def annuitantlaw36_BankBack.B14 : List Nat := [0, 1, 3, 7, 15, 31, 63, 127, 255, 511, 1023, 2047, 4095, 8191, 16383, 32767, 65535, 131071, 262143, 524287, 1048575, 524287, 4194303, 8388607, 16777215, 33554431]
theorem annuitantlaw36_BankBack.tab14 : rtab .any (opsOf Tryz.f7 14) = annuitantlaw36_BankBack.T14 := by kernel_rfl
theorem annuitantlaw36_BankBack.bits14 : waitsOk annuitantlaw36_BankBack.T14.2 annuitantlaw36_BankBack.B14 = true := by kernel_rfl
def annuitantlaw36_BankBack.T21 : Bool × List (List Nat × List Nat) := (true, [([], []), ([0], [0]), ([1], [1]), ([2], [2]), ([3, 2], [2, 3]), ([2, 4], [2, 4]), ([5, 2], [5]), ([6], [6]), ([7, 6], [6, 7]), ([6, 8], [6, 8]), ([9, 6], [9]), ([10], [10]), ([11, 10, 10], [10, 11]), ([10], [10]), ([13, 12, 10], [10, 13]), ([12, 14, 14, 10], [10, 12, 14]), ([10, 15], [10, 15]), ([16, 15, 0, 1, 2, 3, 4, 5, 6, 7, 8, 9, 10, 11, 12, 13, 14, 15, 16], [16])])
def annuitantlaw36_BankBack.B21 : List Nat := [0, 1, 3, 7, 15, 31, 63, 127, 255, 511, 1023, 2047, 4095, 2047, 16383, 32767, 65535, 131071]
theorem annuitantlaw36_BankBack.tab21 : rtab .any (opsOf Tryz.f7 21) = annuitantlaw36_BankBack.T21 := by kernel_rfl
theorem annuitantlaw36_BankBack.bits21 : waitsOk annuitantlaw36_BankBack.T21.2 annuitantlaw36_BankBack.B21 = true := by kernel_rfl
abbrev zary := true
abbrev zarn := false
abbrev zarz0 : Array Bool := #[zarn,zarn,zarn,zarn,zarn,zarn,zarn,zarn,zarn,zarn,zarn,zarn,zarn,zarn,zarn,zarn,zarn,zarn,zarn,zarn,zarn,zarn,zarn,zarn,zarn,zarn]
abbrev zarz1 : Array Bool := #[zary,zarn,zarn,zarn,zarn,zarn,zarn,zarn,zarn,zarn,zarn,zarn,zarn,zarn,zarn,zarn,zarn,zarn,zarn,zarn,zarn,zarn,zarn,zarn,zarn,zarn]
abbrev zarz2 : Array Bool := #[zary,zary,zarn,zarn,zarn,zarn,zarn,zarn,zarn,zarn,zarn,zarn,zarn,zarn,zarn,zarn,zarn,zarn,zarn,zarn,zarn,zarn,zarn,zarn,zarn,zarn]
abbrev zarz3 : Array Bool := #[zary,zary,zary,zarn,zarn,zarn,zarn,zarn,zarn,zarn,zarn,zarn,zarn,zarn,zarn,zarn,zarn,zarn,zarn,zarn,zarn,zarn,zarn,zarn,zarn,zarn]
abbrev zarz4 : Array Bool := #[zary,zary,zary,zary,zarn,zarn,zarn,zarn,zarn,zarn,zarn,zarn,zarn,zarn,zarn,zarn,zarn,zarn,zarn,zarn,zarn,zarn,zarn,zarn,zarn,zarn]
abbrev zarz5 : Array Bool := #[zary,zary,zary,zary,zary,zarn,zarn,zarn,zarn,zarn,zarn,zarn,zarn,zarn,zarn,zarn,zarn,zarn,zarn,zarn,zarn,zarn,zarn,zarn,zarn,zarn]
abbrev zarz6 : Array Bool := #[zary,zary,zary,zary,zary,zary,zarn,zarn,zarn,zarn,zarn,zarn,zarn,zarn,zarn,zarn,zarn,zarn,zarn,zarn,zarn,zarn,zarn,zarn,zarn,zarn]
abbrev zarz7 : Array Bool := #[zary,zary,zary,zary,zary,zary,zary,zarn,zarn,zarn,zarn,zarn,zarn,zarn,zarn,zarn,zarn,zarn,zarn,zarn,zarn,zarn,zarn,zarn,zarn,zarn]
abbrev zarz8 : Array Bool := #[zary,zary,zary,zary,zary,zary,zary,zary,zarn,zarn,zarn,zarn,zarn,zarn,zarn,zarn,zarn,zarn,zarn,zarn,zarn,zarn,zarn,zarn,zarn,zarn]
abbrev zarz9 : Array Bool := #[zary,zary,zary,zary,zary,zary,zary,zary,zary,zarn,zarn,zarn,zarn,zarn,zarn,zarn,zarn,zarn,zarn,zarn,zarn,zarn,zarn,zarn,zarn,zarn]
abbrev zarz10 : Array Bool := #[zary,zary,zary,zary,zary,zary,zary,zary,zary,zary,zarn,zarn,zarn,zarn,zarn,zarn,zarn,zarn,zarn,zarn,zarn,zarn,zarn,zarn,zarn,zarn]
abbrev zarz11 : Array Bool := #[zary,zary,zary,zary,zary,zary,zary,zary,zary,zary,zary,zarn,zarn,zarn,zarn,zarn,zarn,zarn,zarn,zarn,zarn,zarn,zarn,zarn,zarn,zarn]
abbrev zarz12 : Array Bool := #[zary,zary,zary,zary,zary,zary,zary,zary,zary,zary,zary,zary,zarn,zarn,zarn,zarn,zarn,zarn,zarn,zarn,zarn,zarn,zarn,zarn,zarn,zarn]
abbrev zarz13 : Array Bool := #[zary,zary,zary,zary,zary,zary,zary,zary,zary,zary,zary,zary,zary,zarn,zarn,zarn,zarn,zarn,zarn,zarn,zarn,zarn,zarn,zarn,zarn,zarn]
abbrev zarz14 : Array Bool := #[zary,zary,zary,zary,zary,zary,zary,zary,zary,zary,zary,zary,zary,zary,zarn,zarn,zarn,zarn,zarn,zarn,zarn,zarn,zarn,zarn,zarn,zarn]
abbrev zarz15 : Array Bool := #[zary,zary,zary,zary,zary,zary,zary,zary,zary,zary,zary,zary,zary,zary,zary,zarn,zarn,zarn,zarn,zarn,zarn,zarn,zarn,zarn,zarn,zarn]
abbrev zarz16 : Array Bool := #[zary,zary,zary,zary,zary,zary,zary,zary,zary,zary,zary,zary,zary,zary,zary,zary,zarn,zarn,zarn,zarn,zarn,zarn,zarn,zarn,zarn,zarn]
abbrev zarz17 : Array Bool := #[zary,zary,zary,zary,zary,zary,zary,zary,zary,zary,zary,zary,zary,zary,zary,zary,zary,zarn,zarn,zarn,zarn,zarn,zarn,zarn,zarn,zarn]
abbrev zarz18 : Array Bool := #[zary,zary,zary,zary,zary,zary,zary,zary,zary,zary,zary,zary,zary,zary,zary,zary,zary,zary,zarn,zarn,zarn,zarn,zarn,zarn,zarn,zarn]
abbrev zarz19 : Array Bool := #[zary,zary,zary,zary,zary,zary,zary,zary,zary,zary,zary,zary,zary,zary,zary,zary,zary,zary,zary,zarn,zarn,zarn,zarn,zarn,zarn,zarn]
abbrev zarz20 : Array Bool := #[zary,zary,zary,zary,zary,zary,zary,zary,zary,zary,zary,zary,zary,zary,zary,zary,zary,zary,zary,zary,zarn,zarn,zarn,zarn,zarn,zarn]
abbrev zarz21 : Array Bool := #[zary,zary,zary,zary,zary,zary,zary,zary,zary,zary,zary,zary,zary,zary,zary,zary,zary,zary,zary,zary,zarn,zary,zarn,zarn,zarn,zarn]
abbrev zarz22 : Array Bool := #[zary,zary,zary,zary,zary,zary,zary,zary,zary,zary,zary,zary,zary,zary,zary,zary,zary,zary,zary,zary,zary,zary,zarn,zarn,zarn,zarn]
abbrev zarz23 : Array Bool := #[zary,zary,zary,zary,zary,zary,zary,zary,zary,zary,zary,zary,zary,zary,zary,zary,zary,zary,zary,zary,zary,zary,zary,zarn,zarn,zarn]
abbrev zarz24 : Array Bool := #[zary,zary,zary,zary,zary,zary,zary,zary,zary,zary,zary,zary,zary,zary,zary,zary,zary,zary,zary,zary,zary,zary,zary,zary,zarn,zarn]
abbrev zarz25 : Array Bool := #[zary,zary,zary,zary,zary,zary,zary,zary,zary,zary,zary,zary,zary,zary,zary,zary,zary,zary,zary,zary,zary,zary,zary,zary,zary,zarn]
abbrev zarz26 : Array Bool := #[zary,zary,zary,zary,zary,zary,zary,zary,zary,zary,zary,zary,zary,zary,zary,zary,zary,zary,zary,zary,zary,zary,zary,zary,zary,zary]
abbrev zarz27 : Array Bool := #[zary,zary,zary,zary,zary,zary,zary,zary,zary,zary,zary,zary,zary,zary,zary,zary,zary,zary,zary,zary,zary,zarn,zarn,zarn,zarn,zarn]
abbrev zarz28 : Array Bool := #[zarn,zarn,zarn,zarn,zarn,zarn,zarn,zarn,zarn,zarn,zarn,zarn,zarn,zarn,zarn,zarn,zarn,zarn]
abbrev zarz29 : Array Bool := #[zary,zarn,zarn,zarn,zarn,zarn,zarn,zarn,zarn,zarn,zarn,zarn,zarn,zarn,zarn,zarn,zarn,zarn]
abbrev zarz30 : Array Bool := #[zary,zary,zarn,zarn,zarn,zarn,zarn,zarn,zarn,zarn,zarn,zarn,zarn,zarn,zarn,zarn,zarn,zarn]
abbrev zarz31 : Array Bool := #[zary,zary,zary,zarn,zarn,zarn,zarn,zarn,zarn,zarn,zarn,zarn,zarn,zarn,zarn,zarn,zarn,zarn]
abbrev zarz32 : Array Bool := #[zary,zary,zary,zary,zarn,zarn,zarn,zarn,zarn,zarn,zarn,zarn,zarn,zarn,zarn,zarn,zarn,zarn]
abbrev zarz33 : Array Bool := #[zary,zary,zary,zary,zary,zarn,zarn,zarn,zarn,zarn,zarn,zarn,zarn,zarn,zarn,zarn,zarn,zarn]
abbrev zarz34 : Array Bool := #[zary,zary,zary,zary,zary,zary,zarn,zarn,zarn,zarn,zarn,zarn,zarn,zarn,zarn,zarn,zarn,zarn]
abbrev zarz35 : Array Bool := #[zary,zary,zary,zary,zary,zary,zary,zarn,zarn,zarn,zarn,zarn,zarn,zarn,zarn,zarn,zarn,zarn]
abbrev zarz36 : Array Bool := #[zary,zary,zary,zary,zary,zary,zary,zary,zarn,zarn,zarn,zarn,zarn,zarn,zarn,zarn,zarn,zarn]
abbrev zarz37 : Array Bool := #[zary,zary,zary,zary,zary,zary,zary,zary,zary,zarn,zarn,zarn,zarn,zarn,zarn,zarn,zarn,zarn]
abbrev zarz38 : Array Bool := #[zary,zary,zary,zary,zary,zary,zary,zary,zary,zary,zarn,zarn,zarn,zarn,zarn,zarn,zarn,zarn]
abbrev zarz39 : Array Bool := #[zary,zary,zary,zary,zary,zary,zary,zary,zary,zary,zary,zarn,zarn,zarn,zarn,zarn,zarn,zarn]
abbrev zarz40 : Array Bool := #[zary,zary,zary,zary,zary,zary,zary,zary,zary,zary,zary,zary,zarn,zarn,zarn,zarn,zarn,zarn]
abbrev zarz41 : Array Bool := #[zary,zary,zary,zary,zary,zary,zary,zary,zary,zary,zary,zary,zarn,zary,zarn,zarn,zarn,zarn]
abbrev zarz42 : Array Bool := #[zary,zary,zary,zary,zary,zary,zary,zary,zary,zary,zary,zary,zary,zary,zarn,zarn,zarn,zarn]
abbrev zarz43 : Array Bool := #[zary,zary,zary,zary,zary,zary,zary,zary,zary,zary,zary,zary,zary,zary,zary,zarn,zarn,zarn]
abbrev zarz44 : Array Bool := #[zary,zary,zary,zary,zary,zary,zary,zary,zary,zary,zary,zary,zary,zary,zary,zary,zarn,zarn]
abbrev zarz45 : Array Bool := #[zary,zary,zary,zary,zary,zary,zary,zary,zary,zary,zary,zary,zary,zary,zary,zary,zary,zarn]
abbrev zarz46 : Array Bool := #[zary,zary,zary,zary,zary,zary,zary,zary,zary,zary,zary,zary,zary,zary,zary,zary,zary,zary]
abbrev zarz47 : Array Bool := #[zary,zary,zary,zary,zary,zary,zary,zary,zary,zary,zary,zary,zary,zarn,zarn,zarn,zarn,zarn]
theorem zarq {α β γ : Type _} {A : α → β → γ → Prop} : ∀ a b c, A a b c → A a b c := fun _ _ _ h => h
theorem zarp {P : Program} {md : Region.Mode} {ops : Array Oper} {Q : Exit → Act → World → Prop} {S : World → Prop} {ds : List Nat} {oi : Oper} {fuel : Nat} {l : Array Bool} {a : Act} {w : World} {v : Value} {a' : Act} (i : Nat) (N : Option Tmp) (l' : Array Bool) (hi : ops[i]? = some oi) (hN : oi.dst = N) (hc : anyB md ops l l' i = true)
    (hQ : ∀ c a w, Q (.panic c) (a.put oi.dst v) w → Q (.panic c) a w) (hy : Yields P ops oi v a) (ha : a.put N v = a')
    (h : wpAnyLast P md ops Q S ds fuel l' a' w) : wpAnyLast P md ops Q S ds (fuel + 1) l a w := pure_ (i := i) (N := N) (v := v) (a' := a') l' hi hN hc hQ hy ha h
theorem zar1 {α : Type _} {l : List α} {i : Nat} {a : α} : l.toArray.setIfInBounds i a = (l.set i a).toArray := by simp
theorem zar2 {α : Type _} {x : α} {xs : List α} {a : α} : (x :: xs).set 0 a = a :: xs := rfl
theorem zar3 {α : Type _} {x : α} {xs : List α} {n : Nat} {a : α} : (x :: xs).set (n + 1) a = x :: xs.set n a := rfl
set_option maxHeartbeats 8000000 in
set_option maxRecDepth 100000 in
theorem annuitantlaw36_BankBack.calls (k : Nat) (a0_0 : Int) (a0_1 : Int) (A0_2 : Option Addr) (c0_2 : Nat) (l0_2 : List (S47)) (a1_0 : Int) (a1_1 : Int) (A1_2 : Option Addr) (c1_2 : Nat) (l1_2 : List (S49)) (r : Bool) (w : World) (hr0_2 : Kd.C k47 w A0_2 l0_2.length l0_2) (hc0_2 : l0_2.length ≤ c0_2) (hr1_2 : Kd.C k49 w A1_2 l1_2.length l1_2) (hc1_2 : l1_2.length ≤ c1_2) (hG : GG w) (h : annuitantlaw36_BankBack.f k a0_0 a0_1 l0_2 a1_0 a1_1 l1_2 = some r) :
  Calls Tryz.prog 7 #[.agg #[.int .i64 a0_0, .int .i64 a0_1, .slice A0_2 l0_2.length c0_2], .agg #[.int .i64 a1_0, .int .i64 a1_1, .slice A1_2 l1_2.length c1_2]] w fun e w' => e = .returned (.bool r) ∧ Below w.heap.size w w' := by
 have hu27 := Tryz.underlying27; have hu30 := Tryz.underlying30; have HG := Aside0.mk hG; clear hG; have HR0_2 := Aside0.mk hr0_2; have HC0_2 := Aside0.mk hc0_2; clear hr0_2 hc0_2; have HR1_2 := Aside0.mk hr1_2; have HC1_2 := Aside0.mk hc1_2; clear hr1_2 hc1_2; have HB := Aside0.mk (Below.refl w.heap.size w); have H : ((annuitantlaw36_awake.f k).bind fun t608 => (if t608 = true then (if (l0_2.length : Int) > 100 then (annuitantlaw36_BankBack.j0 k true a0_0 a0_1 l0_2 a1_0 a1_1 l1_2) else (annuitantlaw36_BankBack.j0 k (decide ((l1_2.length : Int) > 100)) a0_0 a0_1 l0_2 a1_0 a1_1 l1_2)) else (some false))) = some r := h; clear h; replace H := Option.bind_eq_some_iff.mp H; obtain ⟨t608, A30, H⟩ := H; replace H : (if t608 = true then (if (l0_2.length : Int) > 100 then (annuitantlaw36_BankBack.j0 k true a0_0 a0_1 l0_2 a1_0 a1_1 l1_2) else (annuitantlaw36_BankBack.j0 k (decide ((l1_2.length : Int) > 100)) a0_0 a0_1 l0_2 a1_0 a1_1 l1_2)) else (some false)) = some r := H; have A3 := Aside0.mk A30; clear A30
 by_cases c4 : t608 = true
 ·
  subst c4
  have H1 : (if (l0_2.length : Int) > 100 then (annuitantlaw36_BankBack.j0 k true a0_0 a0_1 l0_2 a1_0 a1_1 l1_2) else (annuitantlaw36_BankBack.j0 k (decide ((l1_2.length : Int) > 100)) a0_0 a0_1 l0_2 a1_0 a1_1 l1_2)) = some r := by rw [if_pos rfl] at H; exact H
  clear H; have H := H1; clear H1; have HC5 := Aside0.mk H; clear H
  go_enter Tryz.func7, Tryz.ntmps7
  go_upto_region 3 with (first | ((with_reducible refine gate_dst (N := 2) rfl ?_); (try (refine gate_guard (by rfl) ?_; dsimp only)); refine box_event ?hg (N := 2) ?hd (cs := #[.int .i64 a0_0, .int .i64 a0_1, .slice A0_2 l0_2.length c0_2]) (t := 27) ?hr ?_; (case hd => rfl); (case hg => rfl); (case hr => first | (go_simp; done) | (go_simp; rfl)); intro gb606 hg w6 hbox hb; have BK606 := Aside0.mk (hbox); have GW606 := zG (w := w) hg; have GE606 := zG (w := w) hg; replace HB := zBs hb; clear hb hbox hg) | ((with_reducible refine gate_dst (N := 3) rfl ?_); (try (refine gate_guard (by rfl) ?_; dsimp only)); refine box_event ?hg (N := 3) ?hd (cs := #[.int .i64 a1_0, .int .i64 a1_1, .slice A1_2 l1_2.length c1_2]) (t := 30) ?hr ?_; (case hd => rfl); (case hg => rfl); (case hr => first | (go_simp; done) | (go_simp; rfl)); intro gb607 hg w7 hbox hb; have BK607 := Aside0.mk (hbox); have GW607 := zG (w := w) hg; have GE607 := zG (w := w) hg; replace HB := zBs hb; have NB606_607 := zN hg (zK BK606); have NB607_606 := zM hg (zK BK606); replace BK606 := zKb BK606 hb; clear hb hbox hg) | ((with_reducible refine gate_callee (f := 9) rfl ?_); refine goesL_ (some 20) rfl rfl Tryz.func9 (by kernel_rfl) rfl #[] rfl (by (try simp only [List.map_toArray, List.map_cons, List.map_nil]); try rfl) ?_; (with_reducible refine (annuitantlaw36_awake.calls k  true _ ?side1 A3.out).mono ?_); (case side1 => exact GG.below HG.out zB); rintro e w8 ⟨rfl, hb⟩; refine ⟨_, rfl, ?_⟩; replace BK606 := zKb BK606 hb; replace BK607 := zKb BK607 hb; replace HB := zBs hb; (try clear hb); (try clear hb2); (try clear hk); (try clear hi)))
  (try simp only [Act.put, List.setIfInBounds_toArray, List.set_cons_zero, List.set_cons_succ])
  go_cut [31] (fun v31 wc => ∃ (kq : Nat) (x31_4 : Bool), v31 = .bool x31_4 ∧ Aside0 (annuitantlaw36_BankBack.j0 kq x31_4 a0_0 a0_1 l0_2 a1_0 a1_1 l1_2 = some r) ∧ Aside0 (kq ≤ k) ∧ Aside0 (wc.heap[gb606]? = some (.cells #[.int .i64 a0_0, .int .i64 a0_1, (.slice A0_2 l0_2.length c0_2)] 27 (0, 0))) ∧ Aside0 (wc.heap[gb607]? = some (.cells #[.int .i64 a1_0, .int .i64 a1_1, (.slice A1_2 l1_2.length c1_2)] 30 (0, 0))) ∧ Aside0 (Below w.heap.size w wc))
  case first =>
   have H := HC5.out; clear HC5
   by_cases c9 : (l0_2.length : Int) > 100
   ·
    rw [if_pos c9] at H
    have c9b0 : decide (100 < (l0_2.length : Int)) = true := decide_eq_true c9; have c9b1 : decide (100 < l0_2.length) = true := decide_eq_true (by omega); clear c9
    (first | rw [c9b0] | (simp only [i64_w, i32_w]; rw [c9b0]) | skip)
    have H' := Aside0.mk H; clear H; have hnb10 := NB606_607.out; have hnc10 := NB607_606.out; obtain ⟨hcz11_0, hcz11_1, hcz11_2⟩ := zC3 BK606; obtain ⟨hfz11_0, hfz11_1, hfz11_2⟩ := zZ3 BK606
    go_wp2
    go_meet
    case rel => exact ⟨_, (true), (by first | rfl | (simp; done) | (simp [*]; done)), H', ⟨by first | omega | exact Nat.le_refl _⟩, ⟨zK BK606⟩, ⟨zK BK607⟩, ⟨zB⟩⟩
   ·
    rw [if_neg c9] at H
    have c9b0 : decide (100 < (l0_2.length : Int)) = false := decide_eq_false c9; have c9b1 : decide (100 < l0_2.length) = false := decide_eq_false (by omega); clear c9
    (first | rw [c9b0] | (simp only [i64_w, i32_w]; rw [c9b0]) | skip)
    have H' := Aside0.mk H; clear H; have hnb12 := NB606_607.out; have hnc12 := NB607_606.out; obtain ⟨hcz13_0, hcz13_1, hcz13_2⟩ := zC3 BK606; obtain ⟨hfz13_0, hfz13_1, hfz13_2⟩ := zZ3 BK606; obtain ⟨hcz14_0, hcz14_1, hcz14_2⟩ := zC3 BK607; obtain ⟨hfz14_0, hfz14_1, hfz14_2⟩ := zZ3 BK607
    go_wp2
    go_meet
    case rel => exact ⟨_, (decide ((l1_2.length : Int) > 100)), (by first | rfl | (simp; done) | (simp [*]; done)), H', ⟨by first | omega | exact Nat.le_refl _⟩, ⟨zK BK606⟩, ⟨zK BK607⟩, ⟨zB⟩⟩
  case rest =>
   clear HC5
   try clear c1
   try clear p2
   try clear c4
   try clear c7
   try clear c9
   try clear c9b0
   try clear c9b1
   try clear c10
   try clear c12
   try clear hcz11_0
   try clear hcz11_1
   try clear hcz11_2
   try clear hcz13_0
   try clear hcz13_1
   try clear hcz13_2
   try clear hcz14_0
   try clear hcz14_1
   try clear hcz14_2
   try clear hfz11_0
   try clear hfz11_1
   try clear hfz11_2
   try clear hfz13_0
   try clear hfz13_1
   try clear hfz13_2
   try clear hfz14_0
   try clear hfz14_1
   try clear hfz14_2
   obtain ⟨kq, x31_4, rfl, HA, HJ4, BK606, BK607, HB⟩ := hcut
   cases kq with
   | zero => exact absurd HA.out (by simp [annuitantlaw36_BankBack.j0])
   | succ kj4 =>
    have H := HA.out; clear HA
    simp only [annuitantlaw36_BankBack.j0] at H
    by_cases c15 : x31_4 = true
    ·
     subst c15
     have H1 : (some true) = some r := by rw [if_pos rfl] at H; exact H
     clear H; have H := H1; clear H1; obtain rfl := Option.some.inj H
     go_wp2
     go_ret
     exact ⟨zE, zB⟩
    ·
     replace c15 := Bool.eq_false_iff.mpr c15; subst c15
     have H1 : ((bank_Valid.f kj4 a0_0 a0_1 l0_2).bind fun t609 => (if t609 = true then ((bank_Write.f kj4 a0_0 a0_1 l0_2).bind fun bt610 => ((bank_Read.f kj4 bt610.1).bind fun bt612 => ((bank_ReadAnswer.f kj4 bt610.1).bind fun bt619 => ((bank_Total.f kj4 a0_0 a0_1 l0_2).bind fun bt626 => (annuitantlaw36_BankBack.l0 kj4 bt610.2 bt612.2.2.2 bt619.2.2.2 bt626.1 bt626.2 0 a0_0 a0_1 l0_2 a1_0 a1_1 l1_2 bt612.1 bt612.2.1 bt612.2.2.1))))) else (annuitantlaw36_BankBack.j2 kj4 a1_0 a1_1 l1_2))) = some r := by rw [if_neg (show ¬ (false = true) by decide)] at H; exact H
     clear H; have H := H1; clear H1; replace H := Option.bind_eq_some_iff.mp H; obtain ⟨t609, A160, H⟩ := H; replace H : (if t609 = true then ((bank_Write.f kj4 a0_0 a0_1 l0_2).bind fun bt610 => ((bank_Read.f kj4 bt610.1).bind fun bt612 => ((bank_ReadAnswer.f kj4 bt610.1).bind fun bt619 => ((bank_Total.f kj4 a0_0 a0_1 l0_2).bind fun bt626 => (annuitantlaw36_BankBack.l0 kj4 bt610.2 bt612.2.2.2 bt619.2.2.2 bt626.1 bt626.2 0 a0_0 a0_1 l0_2 a1_0 a1_1 l1_2 bt612.1 bt612.2.1 bt612.2.2.1))))) else (annuitantlaw36_BankBack.j2 kj4 a1_0 a1_1 l1_2)) = some r := H; have A16 := Aside0.mk A160; clear A160; have HC17 := Aside0.mk H; clear H; have hnb18 := NB606_607.out; have hnc18 := NB607_606.out; obtain ⟨hcz19_0, hcz19_1, hcz19_2⟩ := zC3 BK606; obtain ⟨hfz19_0, hfz19_1, hfz19_2⟩ := zZ3 BK606
     go_upto_if 33 with (first | ((with_reducible refine gate_callee (f := 22) rfl ?_); refine goesL_ (some 33) rfl rfl Tryz.func22 (by kernel_rfl) rfl #[.agg #[.int .i64 a0_0, .int .i64 a0_1, .slice A0_2 l0_2.length c0_2]] rfl (by (try simp only [List.map_toArray, List.map_cons, List.map_nil]); try rfl) ?_; (with_reducible refine (bank_Valid.calls kj4 a0_0 a0_1 _ _ l0_2 t609 _ ?side1 ?side2 A16.out).mono ?_); (case side1 => repeat (first | exact (Kd.C_below HR0_2.out HB.out) | (with_reducible refine Kd.C_alloc ?_ _) | (with_reducible refine Kd.C_drewN ?_ _) | (with_reducible refine Kd.C_drew ?_))); (case side2 => exact HC0_2.out); rintro e w20 ⟨rfl, hb⟩; refine ⟨_, rfl, ?_⟩; replace BK606 := zKb BK606 hb; replace BK607 := zKb BK607 hb; replace HB := zBs hb; (try clear hb); (try clear hb2); (try clear hk); (try clear hi)))
     (try simp only [Act.put, List.setIfInBounds_toArray, List.set_cons_zero, List.set_cons_succ])
     go_cut [] (fun wc => ∃ (kq : Nat), Aside0 (annuitantlaw36_BankBack.j2 kq a1_0 a1_1 l1_2 = some r) ∧ Aside0 (kq ≤ kj4) ∧ Aside0 (wc.heap[gb606]? = some (.cells #[.int .i64 a0_0, .int .i64 a0_1, (.slice A0_2 l0_2.length c0_2)] 27 (0, 0))) ∧ Aside0 (wc.heap[gb607]? = some (.cells #[.int .i64 a1_0, .int .i64 a1_1, (.slice A1_2 l1_2.length c1_2)] 30 (0, 0))) ∧ Aside0 (Below w.heap.size w wc))
     case first =>
      have H := HC17.out; clear HC17
      by_cases c21 : t609 = true
      ·
       subst c21
       have H1 : ((bank_Write.f kj4 a0_0 a0_1 l0_2).bind fun bt610 => ((bank_Read.f kj4 bt610.1).bind fun bt612 => ((bank_ReadAnswer.f kj4 bt610.1).bind fun bt619 => ((bank_Total.f kj4 a0_0 a0_1 l0_2).bind fun bt626 => (annuitantlaw36_BankBack.l0 kj4 bt610.2 bt612.2.2.2 bt619.2.2.2 bt626.1 bt626.2 0 a0_0 a0_1 l0_2 a1_0 a1_1 l1_2 bt612.1 bt612.2.1 bt612.2.2.1))))) = some r := by rw [if_pos rfl] at H; exact H
       clear H; have H := H1; clear H1; replace H := Option.bind_eq_some_iff.mp H; obtain ⟨⟨t610, t611⟩, A220, H⟩ := H; replace H : ((bank_Read.f kj4 t610).bind fun bt612 => ((bank_ReadAnswer.f kj4 t610).bind fun bt619 => ((bank_Total.f kj4 a0_0 a0_1 l0_2).bind fun bt626 => (annuitantlaw36_BankBack.l0 kj4 t611 bt612.2.2.2 bt619.2.2.2 bt626.1 bt626.2 0 a0_0 a0_1 l0_2 a1_0 a1_1 l1_2 bt612.1 bt612.2.1 bt612.2.2.1)))) = some r := H; have A22 := Aside0.mk A220; clear A220; replace H := Option.bind_eq_some_iff.mp H; obtain ⟨⟨t612, t613, t614, t617⟩, A230, H⟩ := H; replace H : ((bank_ReadAnswer.f kj4 t610).bind fun bt619 => ((bank_Total.f kj4 a0_0 a0_1 l0_2).bind fun bt626 => (annuitantlaw36_BankBack.l0 kj4 t611 t617 bt619.2.2.2 bt626.1 bt626.2 0 a0_0 a0_1 l0_2 a1_0 a1_1 l1_2 t612 t613 t614))) = some r := H; have A23 := Aside0.mk A230; clear A230; replace H := Option.bind_eq_some_iff.mp H; obtain ⟨⟨t619, t620, t621, t624⟩, A240, H⟩ := H; replace H : ((bank_Total.f kj4 a0_0 a0_1 l0_2).bind fun bt626 => (annuitantlaw36_BankBack.l0 kj4 t611 t617 t624 bt626.1 bt626.2 0 a0_0 a0_1 l0_2 a1_0 a1_1 l1_2 t612 t613 t614)) = some r := H; have A24 := Aside0.mk A240; clear A240; replace H := Option.bind_eq_some_iff.mp H; obtain ⟨⟨t626, t627⟩, A250, H⟩ := H; replace H : (annuitantlaw36_BankBack.l0 kj4 t611 t617 t624 t626 t627 0 a0_0 a0_1 l0_2 a1_0 a1_1 l1_2 t612 t613 t614) = some r := H; have A25 := Aside0.mk A250; clear A250; have H' := Aside0.mk H; clear H; have hnb26 := NB606_607.out; have hnc26 := NB607_606.out; obtain ⟨hcz27_0, hcz27_1, hcz27_2⟩ := zC3 BK606; obtain ⟨hfz27_0, hfz27_1, hfz27_2⟩ := zZ3 BK606
       go_wp2_with (first | ((with_reducible refine gate_callee (f := 23) rfl ?_); refine goesL_ (some 36) rfl rfl Tryz.func23 (by kernel_rfl) rfl #[.agg #[.int .i64 a0_0, .int .i64 a0_1, .slice A0_2 l0_2.length c0_2]] rfl (by (try simp only [List.map_toArray, List.map_cons, List.map_nil]); try rfl) ?_; (with_reducible refine (bank_Write.calls kj4 a0_0 a0_1 _ _ l0_2 t610 t611 _ ?side1 ?side2 ?side3 A22.out).mono ?_); (case side1 => repeat (first | exact (Kd.C_below HR0_2.out HB.out) | (with_reducible refine Kd.C_alloc ?_ _) | (with_reducible refine Kd.C_drewN ?_ _) | (with_reducible refine Kd.C_drew ?_))); (case side2 => exact HC0_2.out); (case side3 => exact GG.below HG.out zB); rintro e w28 ⟨rfl, hb⟩; refine ⟨_, rfl, ?_⟩; replace BK606 := zKb BK606 hb; replace BK607 := zKb BK607 hb; replace HB := zBs hb; (try clear hb); (try clear hb2); (try clear hk); (try clear hi)) | ((with_reducible refine gate_callee (f := 24) rfl ?_); refine goesL_ (some 41) rfl rfl Tryz.func24 (by kernel_rfl) rfl #[.string t610] rfl (by (try simp only [List.map_toArray, List.map_cons, List.map_nil]); try rfl) ?_; (with_reducible refine (bank_Read.calls kj4 t610 t612 t613 t614 t617 _ ?side1 A23.out).mono ?_); (case side1 => exact GG.below HG.out zB); rintro e w29 ⟨v615, rfl, ho0, hb⟩; refine ⟨_, rfl, ?_⟩; have HO616 := Aside0.mk (Kd.R_lower ho0 (below_size zB)); replace BK606 := zKb BK606 hb; replace BK607 := zKb BK607 hb; replace HB := zBs hb; (try clear hb); (try clear hb2); (try clear hk); (try clear hi); (try clear ho0)) | ((with_reducible refine gate_dst (N := 7) rfl ?_); (try (refine gate_guard (by rfl) ?_; dsimp only)); refine box_event ?hg (N := 7) ?hd (cs := #[.int .i64 0, .int .i64 0, .slice none 0 0]) (t := 27) ?hr ?_; (case hd => rfl); (case hg => rfl); (case hr => first | (go_simp; done) | (go_simp; rfl)); intro gb618 hg w30 hbox hb; replace HO616 := Aside0.mk (Kd.R_below (zR HO616) hb); have BK618 := Aside0.mk (hbox); have GW618 := zG (w := w) hg; have GE618 := zG (w := w) hg; replace HB := zBs hb; have NB606_618 := zN hg (zK BK606); have NB618_606 := zM hg (zK BK606); replace BK606 := zKb BK606 hb; have NB607_618 := zN hg (zK BK607); have NB618_607 := zM hg (zK BK607); replace BK607 := zKb BK607 hb; clear hb hbox hg; have hnb31 := NB618_606.out; have hnc31 := NB606_618.out; have hnb32 := NB618_607.out; have hnc32 := NB607_618.out; obtain ⟨hcz33_0, hcz33_1, hcz33_2⟩ := zC3 BK618; obtain ⟨hfz33_0, hfz33_1, hfz33_2⟩ := zZ3 BK618; obtain ⟨Ao34, co34, eo34⟩ := Kd.R_slice HO616.out; subst eo34) | ((with_reducible refine gate_callee (f := 25) rfl ?_); refine goesL_ (some 46) rfl rfl Tryz.func25 (by kernel_rfl) rfl #[.string t610] rfl (by (try simp only [List.map_toArray, List.map_cons, List.map_nil]); try rfl) ?_; (with_reducible refine (bank_ReadAnswer.calls kj4 t610 t619 t620 t621 t624 _ ?side1 A24.out).mono ?_); (case side1 => exact GG.below HG.out zB); rintro e w35 ⟨v622, rfl, ho0, hb⟩; refine ⟨_, rfl, ?_⟩; replace HO616 := Aside0.mk (Kd.R_below (by (with_reducible repeat (first | apply Kd.R_alloc | apply Kd.R_drewN | apply Kd.R_drew)); exact (Kd.R_mono (Kd.R_far (p := ⟨gb618, 2, none⟩) (Kd.R_far (p := ⟨gb618, 1, none⟩) (Kd.R_far (p := ⟨gb618, 0, none⟩) (Kd.R_types HO616.out BK618.out (by decide)) (fun _ hk => hk.2) (.int .i64 t612)) (fun _ hk => hk.2) (.int .i64 t613)) (fun _ hk => hk.2) (.slice Ao34 t614.length co34)) (fun _ h_ => h_.1))) hb); have HO623 := Aside0.mk (Kd.R_lower ho0 (below_size zB)); replace BK606 := Aside0.mk (blk_below (zF BK606) hb); replace BK607 := Aside0.mk (blk_below (zF BK607) hb); replace BK618 := Aside0.mk (blk_below (g := gb618) (o := .cells #[.int .i64 t612, .int .i64 t613, .slice Ao34 t614.length co34] 27 (0, 0)) (by (with_reducible repeat (first | apply blk_drewN | apply blk_drew | apply blk_alloc)); refine blk_put (cs := #[.int .i64 t612, .int .i64 t613, .slice none 0 0]) ?_ 2 _ rfl; (with_reducible repeat (first | apply blk_drewN | apply blk_drew | apply blk_alloc)); refine blk_put (cs := #[.int .i64 t612, .int .i64 0, .slice none 0 0]) ?_ 1 _ rfl; (with_reducible repeat (first | apply blk_drewN | apply blk_drew | apply blk_alloc)); refine blk_put (cs := #[.int .i64 0, .int .i64 0, .slice none 0 0]) ?_ 0 _ rfl; (with_reducible repeat (first | apply blk_drewN | apply blk_drew | apply blk_alloc)); exact BK618.out) hb); replace HB := zBs hb; (try clear hb); (try clear hb2); (try clear hk); (try clear hi); (try clear ho0)) | ((with_reducible refine gate_dst (N := 9) rfl ?_); (try (refine gate_guard (by rfl) ?_; dsimp only)); refine box_event ?hg (N := 9) ?hd (cs := #[.int .i64 0, .int .i64 0, .slice none 0 0]) (t := 30) ?hr ?_; (case hd => rfl); (case hg => rfl); (case hr => first | (go_simp; done) | (go_simp; rfl)); intro gb625 hg w36 hbox hb; replace HO616 := Aside0.mk (Kd.R_below (zR HO616) hb); replace HO623 := Aside0.mk (Kd.R_below (zR HO623) hb); have BK625 := Aside0.mk (hbox); have GW625 := zG (w := w) hg; have GE625 := zG (w := w) hg; replace HB := zBs hb; have NB606_625 := zN hg (zK BK606); have NB625_606 := zM hg (zK BK606); replace BK606 := zKb BK606 hb; have NB607_625 := zN hg (zK BK607); have NB625_607 := zM hg (zK BK607); replace BK607 := zKb BK607 hb; have NB618_625 := zN hg (zK BK618); have NB625_618 := zM hg (zK BK618); replace BK618 := zKb BK618 hb; clear hb hbox hg; have hnb37 := NB625_606.out; have hnc37 := NB606_625.out; have hnb38 := NB625_607.out; have hnc38 := NB607_625.out; have hnb39 := NB625_618.out; have hnc39 := NB618_625.out; obtain ⟨hcz40_0, hcz40_1, hcz40_2⟩ := zC3 BK625; obtain ⟨hfz40_0, hfz40_1, hfz40_2⟩ := zZ3 BK625; obtain ⟨Ao41, co41, eo41⟩ := Kd.R_slice HO623.out; subst eo41; obtain ⟨hcz42_0, hcz42_1, hcz42_2⟩ := zC3 BK606; obtain ⟨hfz42_0, hfz42_1, hfz42_2⟩ := zZ3 BK606) | ((with_reducible refine gate_callee (f := 26) rfl ?_); refine goesL_ (some 51) rfl rfl Tryz.func26 (by kernel_rfl) rfl #[.agg #[.int .i64 a0_0, .int .i64 a0_1, .slice A0_2 l0_2.length c0_2]] rfl (by (try simp only [List.map_toArray, List.map_cons, List.map_nil]); try rfl) ?_; (with_reducible refine (bank_Total.calls kj4 a0_0 a0_1 _ _ l0_2 t626 t627 _ ?side1 ?side2 A25.out).mono ?_); (case side1 => exact Kd.C_below HR0_2.out zB); (case side2 => exact HC0_2.out); rintro e w43 ⟨rfl, hb⟩; refine ⟨_, rfl, ?_⟩; replace HO616 := Aside0.mk (Kd.R_below (by (with_reducible repeat (first | apply Kd.R_alloc | apply Kd.R_drewN | apply Kd.R_drew)); exact (Kd.R_mono (Kd.R_far (p := ⟨gb625, 2, none⟩) (Kd.R_far (p := ⟨gb625, 1, none⟩) (Kd.R_far (p := ⟨gb625, 0, none⟩) (Kd.R_types HO616.out BK625.out (by decide)) (fun _ hk => hk.2) (.int .i64 t619)) (fun _ hk => hk.2) (.int .i64 t620)) (fun _ hk => hk.2) (.slice Ao41 t621.length co41)) (fun _ h_ => h_.1))) hb); replace HO623 := Aside0.mk (Kd.R_below (by (with_reducible repeat (first | apply Kd.R_alloc | apply Kd.R_drewN | apply Kd.R_drew)); exact (Kd.R_mono (Kd.R_far (p := ⟨gb625, 2, none⟩) (Kd.R_far (p := ⟨gb625, 1, none⟩) (Kd.R_far (p := ⟨gb625, 0, none⟩) (Kd.R_types HO623.out BK625.out (by decide)) (fun _ hk => hk.2) (.int .i64 t619)) (fun _ hk => hk.2) (.int .i64 t620)) (fun _ hk => hk.2) (.slice Ao41 t621.length co41)) (fun _ h_ => h_.1))) hb); replace BK606 := Aside0.mk (blk_below (zF BK606) hb); replace BK607 := Aside0.mk (blk_below (zF BK607) hb); replace BK618 := Aside0.mk (blk_below (zF BK618) hb); replace BK625 := Aside0.mk (blk_below (g := gb625) (o := .cells #[.int .i64 t619, .int .i64 t620, .slice Ao41 t621.length co41] 30 (0, 0)) (by (with_reducible repeat (first | apply blk_drewN | apply blk_drew | apply blk_alloc)); refine blk_put (cs := #[.int .i64 t619, .int .i64 t620, .slice none 0 0]) ?_ 2 _ rfl; (with_reducible repeat (first | apply blk_drewN | apply blk_drew | apply blk_alloc)); refine blk_put (cs := #[.int .i64 t619, .int .i64 0, .slice none 0 0]) ?_ 1 _ rfl; (with_reducible repeat (first | apply blk_drewN | apply blk_drew | apply blk_alloc)); refine blk_put (cs := #[.int .i64 0, .int .i64 0, .slice none 0 0]) ?_ 0 _ rfl; (with_reducible repeat (first | apply blk_drewN | apply blk_drew | apply blk_alloc)); exact BK625.out) hb); replace HB := zBs hb; (try clear hb); (try clear hb2); (try clear hk); (try clear hi)))
       go_loopg [11, 13] kj4 (fun kq v11 v13 w' => ∃ (x11_2 : Int) (x13_2 : Int), v11 = .int .i64 x11_2 ∧ v13 = .int .i64 x13_2 ∧ Aside0 (annuitantlaw36_BankBack.l0 kq t611 t617 t624 x11_2 t627 x13_2 a0_0 a0_1 l0_2 a1_0 a1_1 l1_2 t612 t613 t614 = some r) ∧ Aside0 (kq ≤ kj4) ∧ Aside0 (Kd.R k47 47 w' w.heap.size (fun _ => True) (.slice Ao34 t614.length co34) t614) ∧ Aside0 (Kd.R k49 49 w' w.heap.size (fun _ => True) (.slice Ao41 t621.length co41) t621) ∧ Aside0 (w'.heap[gb606]? = some (.cells #[.int .i64 a0_0, .int .i64 a0_1, (.slice A0_2 l0_2.length c0_2)] 27 (0, 0))) ∧ Aside0 (w'.heap[gb607]? = some (.cells #[.int .i64 a1_0, .int .i64 a1_1, (.slice A1_2 l1_2.length c1_2)] 30 (0, 0))) ∧ Aside0 (w'.heap[gb618]? = some (.cells #[.int .i64 t612, .int .i64 t613, (.slice Ao34 t614.length co34)] 27 (0, 0))) ∧ Aside0 (w'.heap[gb625]? = some (.cells #[.int .i64 t619, .int .i64 t620, (.slice Ao41 t621.length co41)] 30 (0, 0))) ∧ Aside0 (Below w.heap.size w w'))
       case atStart => exact ⟨(t626), (0), (by first | rfl | (simp; done) | (simp [*]; done)), (by first | rfl | (simp; done) | (simp [*]; done)), H', ⟨Nat.le_refl _⟩, ⟨zR HO616⟩, ⟨zR HO623⟩, ⟨zK BK606⟩, ⟨zK BK607⟩, ⟨zK BK618⟩, ⟨zK BK625⟩, ⟨zB⟩⟩
       case round =>
        clear H'
        try clear c1
        try clear c2
        try clear p2
        try clear c3
        try clear c4
        try clear c7
        try clear c9
        try clear c9b0
        try clear c9b1
        try clear c10
        try clear c12
        try clear c15
        try clear c18
        try clear c21
        try clear c22
        try clear c23
        try clear c24
        try clear c25
        try clear c26
        try clear c31
        try clear c32
        try clear c37
        try clear c38
        try clear c39
        try clear hcz11_0
        try clear hcz11_1
        try clear hcz11_2
        try clear hcz13_0
        try clear hcz13_1
        try clear hcz13_2
        try clear hcz14_0
        try clear hcz14_1
        try clear hcz14_2
        try clear hcz19_0
        try clear hcz19_1
        try clear hcz19_2
        try clear hcz27_0
        try clear hcz27_1
        try clear hcz27_2
        try clear hcz33_0
        try clear hcz33_1
        try clear hcz33_2
        try clear hcz40_0
        try clear hcz40_1
        try clear hcz40_2
        try clear hcz42_0
        try clear hcz42_1
        try clear hcz42_2
        try clear hfz11_0
        try clear hfz11_1
        try clear hfz11_2
        try clear hfz13_0
        try clear hfz13_1
        try clear hfz13_2
        try clear hfz14_0
        try clear hfz14_1
        try clear hfz14_2
        try clear hfz19_0
        try clear hfz19_1
        try clear hfz19_2
        try clear hfz27_0
        try clear hfz27_1
        try clear hfz27_2
        try clear hfz33_0
        try clear hfz33_1
        try clear hfz33_2
        try clear hfz40_0
        try clear hfz40_1
        try clear hfz40_2
        try clear hfz42_0
        try clear hfz42_1
        try clear hfz42_2
        try clear p2
        obtain ⟨x11_2, x13_2, rfl, rfl, HA, HK2, HO_619002, HO_626002, BK606, BK607, BK618, BK625, HB⟩ := hrel
        cases gk with
        | zero => exact absurd HA.out (by simp [annuitantlaw36_BankBack.l0])
        | succ k2 =>
         have H := HA.out; clear HA
         simp only [annuitantlaw36_BankBack.l0] at H
         by_cases c44 : x13_2 < (l0_2.length : Int)
         ·
          rw [if_pos c44] at H
          have c44b0 : decide (x13_2 < (l0_2.length : Int)) = true := decide_eq_true c44; clear c44
          (first | rw [c44b0] | (simp only [i64_w, i32_w]; rw [c44b0]) | skip)
          by_cases c45 : 0 ≤ x13_2
          ·
           rw [if_pos c45] at H
           have c45b0 : decide (0 ≤ x13_2) = true := decide_eq_true c45; clear c45; have H' := Aside0.mk H; clear H; have hnb46 := NB606_607.out; have hnc46 := NB607_606.out; have hnb47 := NB606_618.out; have hnc47 := NB618_606.out; have hnb48 := NB606_625.out; have hnc48 := NB625_606.out; obtain ⟨hcz49_0, hcz49_1, hcz49_2⟩ := zC3 BK606; obtain ⟨hfz49_0, hfz49_1, hfz49_2⟩ := zZ3 BK606; have p628 : 0 ≤ (x13_2 : Int) := zD; have q628 : x13_2 < (l0_2.length : Int) := zD; obtain ⟨ad628, e628, hx628_0, hx628_1, hx628_2, hx628_3, hx628_4⟩ := at_T47 HR0_2.out x13_2 p628 q628
           cases e628
           replace hx628_0 := zL HB hx628_0; replace hx628_1 := zL HB hx628_1; replace hx628_2 := zL HB hx628_2; replace hx628_3 := zL HB hx628_3; replace hx628_4 := zL HB hx628_4; replace p628 := eq_true p628; replace q628 := eq_true q628
           go_wp2
           go_roundg k2
           case measure => have := HJ4.out; have := HK2.out; omega
           case rel => exact ⟨(wrap64 (x11_2 - ((rd_T47 l0_2 x13_2).f4))), (wrap64 (x13_2 + 1)), (by first | rfl | (simp; done) | (simp [*]; done)), (by first | rfl | (simp; done) | (simp [*]; done)), H', ⟨by have := HJ4.out; have := HK2.out; omega⟩, ⟨zR HO_619002⟩, ⟨zR HO_626002⟩, ⟨zK BK606⟩, ⟨zK BK607⟩, ⟨zK BK618⟩, ⟨zK BK625⟩, ⟨zB⟩⟩
          ·
           rw [if_neg c45] at H
           exact absurd H (by simp)
         ·
          rw [if_neg c44] at H
          have c44b0 : decide (x13_2 < (l0_2.length : Int)) = false := decide_eq_false c44; clear c44
          (first | rw [c44b0] | (simp only [i64_w, i32_w]; rw [c44b0]) | skip)
          by_cases c50 : t611 = 0
          ·
           rw [if_pos c50] at H
           have c50b0 : (t611 == 0) = true := beq_iff_eq.mpr c50; have c50b1 : (t611 != 0) = false := bne_eq_false_iff_eq.mpr c50; clear c50
           by_cases c51 : t617 = 0
           ·
            rw [if_pos c51] at H
            have c51b0 : (t617 == 0) = true := beq_iff_eq.mpr c51; have c51b1 : (t617 != 0) = false := bne_eq_false_iff_eq.mpr c51; clear c51
            by_cases c52 : t624 = 360
            ·
             rw [if_pos c52] at H
             have c52b0 : (t624 == 360) = true := beq_iff_eq.mpr c52; have c52b1 : (t624 != 360) = false := bne_eq_false_iff_eq.mpr c52; clear c52
             by_cases c53 : t627 = 0
             ·
              rw [if_pos c53] at H
              have c53b0 : (t627 == 0) = true := beq_iff_eq.mpr c53; have c53b1 : (t627 != 0) = false := bne_eq_false_iff_eq.mpr c53; clear c53
              by_cases c54 : x11_2 = 0
              ·
               rw [if_pos c54] at H
               have c54b0 : (x11_2 == 0) = true := beq_iff_eq.mpr c54; have c54b1 : (x11_2 != 0) = false := bne_eq_false_iff_eq.mpr c54; clear c54; replace H := Option.bind_eq_some_iff.mp H; obtain ⟨⟨t629, t630, t631⟩, A550, H⟩ := H; replace H : ((annuitantlaw36_plain.f t612 t613 t614).bind fun bt634 => ((annuitantlaw36_sameFile.f k2 t629 t630 t631 bt634.1 bt634.2.1 bt634.2.2).bind fun t639 => (if t639 = true then (annuitantlaw36_BankBack.j2 k2 a1_0 a1_1 l1_2) else (some false)))) = some r := H; have A55 := Aside0.mk A550; clear A550; replace H := Option.bind_eq_some_iff.mp H; obtain ⟨⟨t634, t635, t636⟩, A560, H⟩ := H; replace H : ((annuitantlaw36_sameFile.f k2 t629 t630 t631 t634 t635 t636).bind fun t639 => (if t639 = true then (annuitantlaw36_BankBack.j2 k2 a1_0 a1_1 l1_2) else (some false))) = some r := H; have A56 := Aside0.mk A560; clear A560; replace H := Option.bind_eq_some_iff.mp H; obtain ⟨t639, A570, H⟩ := H; replace H : (if t639 = true then (annuitantlaw36_BankBack.j2 k2 a1_0 a1_1 l1_2) else (some false)) = some r := H; have A57 := Aside0.mk A570; clear A570
               by_cases c58 : t639 = true
               ·
                subst c58
                have H1 : (annuitantlaw36_BankBack.j2 k2 a1_0 a1_1 l1_2) = some r := by rw [if_pos rfl] at H; exact H
                clear H; have H := H1; clear H1; have H' := Aside0.mk H; clear H; have hnb59 := NB606_607.out; have hnc59 := NB607_606.out; have hnb60 := NB606_618.out; have hnc60 := NB618_606.out; have hnb61 := NB606_625.out; have hnc61 := NB625_606.out; obtain ⟨hcz62_0, hcz62_1, hcz62_2⟩ := zC3 BK606; obtain ⟨hfz62_0, hfz62_1, hfz62_2⟩ := zZ3 BK606
                try go_wp2
                replace HO_619002 := Aside0.mk (Kd.R_drew HO_619002.out); replace HO_626002 := Aside0.mk (Kd.R_drew HO_626002.out); replace BK606 := Aside0.mk (blk_drew BK606.out); replace BK607 := Aside0.mk (blk_drew BK607.out); replace BK618 := Aside0.mk (blk_drew BK618.out); replace BK625 := Aside0.mk (blk_drew BK625.out); replace HB := Aside0.mk (below_drew1 HB.out); 
                refine start_ (n := 26) (S := fun w' => w'.cell? ⟨gb606, 0, none⟩ = some (.int .i64 a0_0) ∧ w'.cell? ⟨gb606, 1, none⟩ = some (.int .i64 a0_1) ∧ w'.cell? ⟨gb606, 2, none⟩ = some (.slice A0_2 l0_2.length c0_2) ∧ w'.cell? ⟨gb618, 0, none⟩ = some (.int .i64 t612) ∧ w'.cell? ⟨gb618, 1, none⟩ = some (.int .i64 t613) ∧ w'.cell? ⟨gb618, 2, none⟩ = some (.slice Ao34 t614.length co34)) (ds := []) zarz0 (by kernel_rfl) rfl rfl ⟨(blk_cell BK606.out 0).trans rfl, (blk_cell BK606.out 1).trans rfl, (blk_cell BK606.out 2).trans rfl, (blk_cell BK618.out 0).trans rfl, (blk_cell BK618.out 1).trans rfl, (blk_cell BK618.out 2).trans rfl⟩ (fun hHeld => ?_); refine with_tabW annuitantlaw36_BankBack.tab14 annuitantlaw36_BankBack.bits14 (fun HT_ HW_ => ?_)
                generalize wr.drew = w63 at HO_619002 HO_626002 BK606 BK607 BK618 BK625 HB hHeld ⊢
                refine zarp 0 (some 69) zarz1 rfl rfl (any_of HT_.out (by kernel_rfl)) zarq (Or.inl ⟨by rfl, by intro w'; go_simp; with_reducible rfl⟩) (by simp only [Act.put, zar1, zar2, zar3, i64_w, i32_w]; rfl) ?_
                refine zarp 1 (some 70) zarz2 rfl rfl (any_of HT_.out (by kernel_rfl)) zarq (Or.inl ⟨by rfl, by intro w'; go_simp; with_reducible rfl⟩) (by simp only [Act.put, zar1, zar2, zar3, i64_w, i32_w]; rfl) ?_
                refine zarp 2 (some 71) zarz3 rfl rfl (any_of HT_.out (by kernel_rfl)) zarq (Or.inl ⟨by rfl, by intro w'; go_simp; with_reducible rfl⟩) (by simp only [Act.put, zar1, zar2, zar3, i64_w, i32_w]; rfl) ?_
                refine zarp 3 (some 72) zarz4 rfl rfl (any_of HT_.out (by kernel_rfl)) zarq (Or.inl ⟨by rfl, by intro w'; go_simp; with_reducible rfl⟩) (by simp only [Act.put, zar1, zar2, zar3, i64_w, i32_w]; rfl) ?_
                refine zarp 4 (some 73) zarz5 rfl rfl (any_of HT_.out (by kernel_rfl)) zarq (Or.inl ⟨by rfl, by intro w'; go_simp; with_reducible rfl⟩) (by simp only [Act.put, zar1, zar2, zar3, i64_w, i32_w]; rfl) ?_
                refine zarp 5 (some 74) zarz6 rfl rfl (any_of HT_.out (by kernel_rfl)) zarq (Or.inl ⟨by rfl, by intro w'; go_simp; with_reducible rfl⟩) (by simp only [Act.put, zar1, zar2, zar3, i64_w, i32_w]; rfl) ?_
                refine zarp 6 (some 75) zarz7 rfl rfl (any_of HT_.out (by kernel_rfl)) zarq (Or.inl ⟨by rfl, by intro w'; go_simp; with_reducible rfl⟩) (by simp only [Act.put, zar1, zar2, zar3, i64_w, i32_w]; rfl) ?_
                refine zarp 7 (some 76) zarz8 rfl rfl (any_of HT_.out (by kernel_rfl)) zarq (Or.inl ⟨by rfl, by intro w'; go_simp; with_reducible rfl⟩) (by simp only [Act.put, zar1, zar2, zar3, i64_w, i32_w]; rfl) ?_
                refine zarp 8 (some 77) zarz9 rfl rfl (any_of HT_.out (by kernel_rfl)) zarq (Or.inl ⟨by rfl, by intro w'; go_simp; with_reducible rfl⟩) (by simp only [Act.put, zar1, zar2, zar3, i64_w, i32_w]; rfl) ?_
                refine zarp 9 (some 78) zarz10 rfl rfl (any_of HT_.out (by kernel_rfl)) zarq (Or.inl ⟨by rfl, by intro w'; go_simp; with_reducible rfl⟩) (by simp only [Act.put, zar1, zar2, zar3, i64_w, i32_w]; rfl) ?_
                refine zarp 10 (some 79) zarz11 rfl rfl (any_of HT_.out (by kernel_rfl)) zarq (Or.inl ⟨by rfl, by intro w'; go_simp; with_reducible rfl⟩) (by simp only [Act.put, zar1, zar2, zar3, i64_w, i32_w]; rfl) ?_
                refine zarp 11 (some 80) zarz12 rfl rfl (any_of HT_.out (by kernel_rfl)) zarq (Or.inl ⟨by rfl, by intro w'; go_simp; with_reducible rfl⟩) (by simp only [Act.put, zar1, zar2, zar3, i64_w, i32_w]; rfl) ?_
                refine zarp 12 (some 81) zarz13 rfl rfl (any_of HT_.out (by kernel_rfl)) zarq (Or.inl ⟨by rfl, by intro w'; go_simp; with_reducible rfl⟩) (by simp only [Act.put, zar1, zar2, zar3, i64_w, i32_w]; rfl) ?_
                refine zarp 13 (some 82) zarz14 rfl rfl (any_of HT_.out (by kernel_rfl)) zarq (Or.inl ⟨by rfl, by intro w'; go_simp; with_reducible rfl⟩) (by simp only [Act.put, zar1, zar2, zar3, i64_w, i32_w]; rfl) ?_
                refine zarp 14 (some 83) zarz15 rfl rfl (any_of HT_.out (by kernel_rfl)) zarq (Or.inl ⟨by rfl, by intro w'; go_simp; with_reducible rfl⟩) (by simp only [Act.put, zar1, zar2, zar3, i64_w, i32_w]; rfl) ?_
                refine zarp 15 (some 84) zarz16 rfl rfl (any_of HT_.out (by kernel_rfl)) zarq (Or.inl ⟨by rfl, by intro w'; go_simp; with_reducible rfl⟩) (by simp only [Act.put, zar1, zar2, zar3, i64_w, i32_w]; rfl) ?_
                refine zarp 16 (some 85) zarz17 rfl rfl (any_of HT_.out (by kernel_rfl)) zarq (Or.inl ⟨by rfl, by intro w'; go_simp; with_reducible rfl⟩) (by simp only [Act.put, zar1, zar2, zar3, i64_w, i32_w]; rfl) ?_
                refine zarp 17 (some 86) zarz18 rfl rfl (any_of HT_.out (by kernel_rfl)) zarq (Or.inl ⟨by rfl, by intro w'; go_simp; with_reducible rfl⟩) (by simp only [Act.put, zar1, zar2, zar3, i64_w, i32_w]; rfl) ?_
                refine zarp 18 (some 87) zarz19 rfl rfl (any_of HT_.out (by kernel_rfl)) zarq (Or.inl ⟨by rfl, by intro w'; go_simp; with_reducible rfl⟩) (by simp only [Act.put, zar1, zar2, zar3, i64_w, i32_w]; rfl) ?_
                refine take_ (i := 19) (N := some 88) (v := ?_) (a' := ?_) zarz20 rfl rfl (take_ofW HT_.out HW_.out (by kernel_rfl)) (fun _ _ _ h => h) (Or.inl ⟨by rfl, ?_⟩) hHeld ?_ ?_
                rotate_left
                ·
                 rintro w' ⟨s0, s1, s2, s3, s4, s5⟩
                 go_simp
                 with_reducible rfl
                rotate_left
                · simp only [Act.put, zar1, zar2, zar3, i64_w, i32_w]; rfl
                refine take_ (i := 21) (N := some 90) (v := ?_) (a' := ?_) zarz21 rfl rfl (take_ofW HT_.out HW_.out (by kernel_rfl)) (fun _ _ _ h => h) (Or.inl ⟨by rfl, ?_⟩) hHeld ?_ ?_
                rotate_left
                ·
                 rintro w' ⟨s0, s1, s2, s3, s4, s5⟩
                 go_simp
                 with_reducible rfl
                rotate_left
                · simp only [Act.put, zar1, zar2, zar3, i64_w, i32_w]; rfl
                refine one_ (i := 20) (N := some 89) zarz22 rfl rfl (one_of HT_.out (by kernel_rfl)) (by decide) (fun K hK => ?_)
                refine goes_ Tryz.func14 (by kernel_rfl) rfl #[.agg #[.int .i64 a0_0, .int .i64 a0_1, .slice A0_2 l0_2.length c0_2]] (by rfl) rfl rfl (by (try simp only [List.map_toArray, List.map_cons, List.map_nil]); try rfl) ?_
                with_reducible refine (annuitantlaw36_plain.calls a0_0 a0_1 (fun k_ => k_ < w.heap.size) _ _ l0_2 t629 t630 t631 _ ?side1 A55.out).mono ?_
                (case side1 => exact Kd.V_mk HC0_2.out (Kd.F_below (Kd.C_F k47_heap HR0_2.out) zB))
                rintro e w64 ⟨v632, rfl, ho0, hb⟩
                refine ⟨_, rfl, ?_⟩
                have n0_ := Aside0.mk (Kd.R_below (zR HO_619002) hb)
                have n1_ := Aside0.mk (Kd.R_below (zR HO_626002) hb)
                have n2_ := Aside0.mk (Kd.V_lower (Kd.V_mono (ok' := fun k_ => some k_ ≠ (.slice Ao34 t614.length co34 : Value).ownBlock ∧ some k_ ≠ (.slice Ao41 t621.length co41 : Value).ownBlock ∧ k_ ≠ gb606 ∧ k_ ≠ gb607 ∧ k_ ≠ gb618 ∧ k_ ≠ gb625) ho0 (fun k_ hk_ => ⟨Or.elim hk_ (fun hs_ => fun e_ => Nat.not_le.2 hs_ (Kd.R_base HO_619002.out k_ e_.symm)) (fun hn_ => (Kd.fresh' (Kd.R_lt (zR HO_619002)) k_ hn_)), Or.elim hk_ (fun hs_ => fun e_ => Nat.not_le.2 hs_ (Kd.R_base HO_626002.out k_ e_.symm)) (fun hn_ => (Kd.fresh' (Kd.R_lt (zR HO_626002)) k_ hn_)), Or.elim hk_ (fun hs_ => fun e_ => Nat.not_le.2 hs_ (by rw [e_]; exact GW606.out)) (fun hn_ => (Kd.freshB (g := gb606) (o := .cells #[.int .i64 a0_0, .int .i64 a0_1, .slice A0_2 l0_2.length c0_2] 27 (0, 0)) (zK BK606) k_ hn_)), Or.elim hk_ (fun hs_ => fun e_ => Nat.not_le.2 hs_ (by rw [e_]; exact GW607.out)) (fun hn_ => (Kd.freshB (g := gb607) (o := .cells #[.int .i64 a1_0, .int .i64 a1_1, .slice A1_2 l1_2.length c1_2] 30 (0, 0)) (zK BK607) k_ hn_)), Or.elim hk_ (fun hs_ => fun e_ => Nat.not_le.2 hs_ (by rw [e_]; exact GW618.out)) (fun hn_ => (Kd.freshB (g := gb618) (o := .cells #[.int .i64 t612, .int .i64 t613, .slice Ao34 t614.length co34] 27 (0, 0)) (zK BK618) k_ hn_)), Or.elim hk_ (fun hs_ => fun e_ => Nat.not_le.2 hs_ (by rw [e_]; exact GW625.out)) (fun hn_ => (Kd.freshB (g := gb625) (o := .cells #[.int .i64 t619, .int .i64 t620, .slice Ao41 t621.length co41] 30 (0, 0)) (zK BK625) k_ hn_))⟩)) (below_size zB))
                have n3_ := zKb BK606 hb
                have n4_ := zKb BK607 hb
                have n5_ := zKb BK618 hb
                have n6_ := zKb BK625 hb
                have n7_ := zBs hb; clear HO_619002; clear HO_626002; clear BK606; clear BK607; clear BK618; clear BK625; clear HB; have HO_619002 := n0_; have HO_626002 := n1_; have HO633 := n2_; have BK606 := n3_; have BK607 := n4_; have BK618 := n5_; have BK625 := n6_; have HB := n7_; clear n0_ n1_ n2_ n3_ n4_ n5_ n6_ n7_
                (try clear hb)
                (try clear hb2)
                (try clear hk)
                (try clear hi)
                (try clear ho0)
                refine hK.out _ _ ⟨(blk_cell BK606.out 0).trans rfl, (blk_cell BK606.out 1).trans rfl, (blk_cell BK606.out 2).trans rfl, (blk_cell BK618.out 0).trans rfl, (blk_cell BK618.out 1).trans rfl, (blk_cell BK618.out 2).trans rfl⟩ (fun hHeld => ?_)
                clear hK K
                refine norm_ (a' := ?_) ?_ ?_
                rotate_left
                ·
                 show Act.put _ (some 89) _ = _
                 simp only [Act.put, zar1, zar2, zar3, i64_w, i32_w]
                 rfl
                refine one_ (i := 22) (N := some 91) zarz23 rfl rfl (one_of HT_.out (by kernel_rfl)) (by decide) (fun K hK => ?_)
                refine goes_ Tryz.func14 (by kernel_rfl) rfl #[.agg #[.int .i64 t612, .int .i64 t613, .slice Ao34 t614.length co34]] (by rfl) rfl rfl (by (try simp only [List.map_toArray, List.map_cons, List.map_nil]); try rfl) ?_
                with_reducible refine (annuitantlaw36_plain.calls t612 t613 (fun k_ => some k_ = (.slice Ao34 t614.length co34 : Value).ownBlock) _ _ t614 t634 t635 t636 _ ?side1 A56.out).mono ?_
                (case side1 => exact Kd.R_V (Kd.R_tight rfl (Kd.R_types (Kd.R_types (Kd.R_types (Kd.R_types (Kd.R_apart' (HO_619002.out) (Kd.R_typed HO_626002.out) (by decide)) BK606.out (by decide)) BK607.out (by decide)) BK618.out (by decide)) BK625.out (by decide))))
                rintro e w65 ⟨v637, rfl, ho0, hb⟩
                refine ⟨_, rfl, ?_⟩
                have n0_ := Aside0.mk (Kd.R_below (zR HO_619002) hb)
                have n1_ := Aside0.mk (Kd.R_below (zR HO_626002) hb)
                have n2_ := Aside0.mk (Kd.V_below (zV HO633) hb)
                have n3_ := Aside0.mk (Kd.V_lower (Kd.V_mono (ok' := fun k_ => some k_ ≠ (.slice Ao41 t621.length co41 : Value).ownBlock ∧ k_ ≠ gb606 ∧ k_ ≠ gb607 ∧ k_ ≠ gb618 ∧ k_ ≠ gb625) ho0 (fun k_ hk_ => ⟨Or.elim hk_ (fun hs_ => ((Kd.R_types (Kd.R_types (Kd.R_types (Kd.R_types (Kd.R_apart' (HO_619002.out) (Kd.R_typed HO_626002.out) (by decide)) BK606.out (by decide)) BK607.out (by decide)) BK618.out (by decide)) BK625.out (by decide)).1 k_ hs_.symm).1.1.1.1.2) (fun hn_ => (Kd.fresh' (Kd.R_lt (zR HO_626002)) k_ hn_)), Or.elim hk_ (fun hs_ => ((Kd.R_types (Kd.R_types (Kd.R_types (Kd.R_types (Kd.R_apart' (HO_619002.out) (Kd.R_typed HO_626002.out) (by decide)) BK606.out (by decide)) BK607.out (by decide)) BK618.out (by decide)) BK625.out (by decide)).1 k_ hs_.symm).1.1.1.2) (fun hn_ => (Kd.freshB (g := gb606) (o := .cells #[.int .i64 a0_0, .int .i64 a0_1, .slice A0_2 l0_2.length c0_2] 27 (0, 0)) (zK BK606) k_ hn_)), Or.elim hk_ (fun hs_ => ((Kd.R_types (Kd.R_types (Kd.R_types (Kd.R_types (Kd.R_apart' (HO_619002.out) (Kd.R_typed HO_626002.out) (by decide)) BK606.out (by decide)) BK607.out (by decide)) BK618.out (by decide)) BK625.out (by decide)).1 k_ hs_.symm).1.1.2) (fun hn_ => (Kd.freshB (g := gb607) (o := .cells #[.int .i64 a1_0, .int .i64 a1_1, .slice A1_2 l1_2.length c1_2] 30 (0, 0)) (zK BK607) k_ hn_)), Or.elim hk_ (fun hs_ => ((Kd.R_types (Kd.R_types (Kd.R_types (Kd.R_types (Kd.R_apart' (HO_619002.out) (Kd.R_typed HO_626002.out) (by decide)) BK606.out (by decide)) BK607.out (by decide)) BK618.out (by decide)) BK625.out (by decide)).1 k_ hs_.symm).1.2) (fun hn_ => (Kd.freshB (g := gb618) (o := .cells #[.int .i64 t612, .int .i64 t613, .slice Ao34 t614.length co34] 27 (0, 0)) (zK BK618) k_ hn_)), Or.elim hk_ (fun hs_ => ((Kd.R_types (Kd.R_types (Kd.R_types (Kd.R_types (Kd.R_apart' (HO_619002.out) (Kd.R_typed HO_626002.out) (by decide)) BK606.out (by decide)) BK607.out (by decide)) BK618.out (by decide)) BK625.out (by decide)).1 k_ hs_.symm).2) (fun hn_ => (Kd.freshB (g := gb625) (o := .cells #[.int .i64 t619, .int .i64 t620, .slice Ao41 t621.length co41] 30 (0, 0)) (zK BK625) k_ hn_))⟩)) (below_size zB))
                have n4_ := zKb BK606 hb
                have n5_ := zKb BK607 hb
                have n6_ := zKb BK618 hb
                have n7_ := zKb BK625 hb
                have n8_ := zBs hb; clear HO_619002; clear HO_626002; clear HO633; clear BK606; clear BK607; clear BK618; clear BK625; clear HB; have HO_619002 := n0_; have HO_626002 := n1_; have HO633 := n2_; have HO638 := n3_; have BK606 := n4_; have BK607 := n5_; have BK618 := n6_; have BK625 := n7_; have HB := n8_; clear n0_ n1_ n2_ n3_ n4_ n5_ n6_ n7_ n8_
                (try clear hb)
                (try clear hb2)
                (try clear hk)
                (try clear hi)
                (try clear ho0)
                obtain ⟨Ao66, co66, eo66⟩ := Kd.V_slice HO633.out
                (first | subst eo66 | (injection eo66 with f1_ f2_ f3_; have f4_ := f1_.symm; have f5_ := f3_.symm; clear f1_ f2_ f3_; subst f4_; subst f5_))
                obtain ⟨Ao67, co67, eo67⟩ := Kd.V_slice HO638.out
                (first | subst eo67 | (injection eo67 with f1_ f2_ f3_; have f4_ := f1_.symm; have f5_ := f3_.symm; clear f1_ f2_ f3_; subst f4_; subst f5_))
                refine hK.out _ _ ⟨(blk_cell BK606.out 0).trans rfl, (blk_cell BK606.out 1).trans rfl, (blk_cell BK606.out 2).trans rfl, (blk_cell BK618.out 0).trans rfl, (blk_cell BK618.out 1).trans rfl, (blk_cell BK618.out 2).trans rfl⟩ (fun hHeld => ?_)
                clear hK K
                refine norm_ (a' := ?_) ?_ ?_
                rotate_left
                ·
                 show Act.put _ (some 91) _ = _
                 simp only [Act.put, zar1, zar2, zar3, i64_w, i32_w]
                 rfl
                refine one_ (i := 23) (N := some 92) zarz24 rfl rfl (one_of HT_.out (by kernel_rfl)) (by decide) (fun K hK => ?_)
                refine goes_ Tryz.func27 (by kernel_rfl) rfl #[.agg #[.int .i64 t629, .int .i64 t630, .slice Ao66 t631.length co66], .agg #[.int .i64 t634, .int .i64 t635, .slice Ao67 t636.length co67]] (by rfl) rfl rfl (by (try simp only [List.map_toArray, List.map_cons, List.map_nil]); try rfl) ?_
                with_reducible refine (annuitantlaw36_sameFile.calls k2 t629 t630 _ _ t631 t634 t635 _ _ t636 true _ ?side1 ?side2 ?side3 ?side4 A57.out).mono ?_
                (case side1 => repeat (first | exact (Kd.V_reads' HO633.out).2.2 | (with_reducible refine Kd.C_alloc ?_ _) | (with_reducible refine Kd.C_drewN ?_ _) | (with_reducible refine Kd.C_drew ?_)))
                (case side2 => exact (Kd.V_reads' HO633.out).2.1)
                (case side3 => repeat (first | exact (Kd.V_reads' HO638.out).2.2 | (with_reducible refine Kd.C_alloc ?_ _) | (with_reducible refine Kd.C_drewN ?_ _) | (with_reducible refine Kd.C_drew ?_)))
                (case side4 => exact (Kd.V_reads' HO638.out).2.1)
                rintro e w68 ⟨rfl, hb⟩
                refine ⟨_, rfl, ?_⟩
                have n0_ := Aside0.mk (Kd.R_below (zR HO_619002) hb)
                have n1_ := Aside0.mk (Kd.R_below (zR HO_626002) hb)
                have n2_ := Aside0.mk (Kd.V_below (zV HO633) hb)
                have n3_ := Aside0.mk (Kd.V_below (zV HO638) hb)
                have n4_ := zKb BK606 hb
                have n5_ := zKb BK607 hb
                have n6_ := zKb BK618 hb
                have n7_ := zKb BK625 hb
                have n8_ := zBs hb; clear HO_619002; clear HO_626002; clear HO633; clear HO638; clear BK606; clear BK607; clear BK618; clear BK625; clear HB; have HO_619002 := n0_; have HO_626002 := n1_; have HO633 := n2_; have HO638 := n3_; have BK606 := n4_; have BK607 := n5_; have BK618 := n6_; have BK625 := n7_; have HB := n8_; clear n0_ n1_ n2_ n3_ n4_ n5_ n6_ n7_ n8_
                (try clear hb)
                (try clear hb2)
                (try clear hk)
                (try clear hi)
                refine hK.out _ _ ⟨(blk_cell BK606.out 0).trans rfl, (blk_cell BK606.out 1).trans rfl, (blk_cell BK606.out 2).trans rfl, (blk_cell BK618.out 0).trans rfl, (blk_cell BK618.out 1).trans rfl, (blk_cell BK618.out 2).trans rfl⟩ (fun hHeld => ?_)
                clear hK K
                refine norm_ (a' := ?_) ?_ ?_
                rotate_left
                ·
                 show Act.put _ (some 92) _ = _
                 simp only [Act.put, zar1, zar2, zar3, i64_w, i32_w]
                 rfl
                refine zarp 24 (some 93) zarz25 rfl rfl (any_of HT_.out (by kernel_rfl)) zarq (Or.inl ⟨by rfl, by intro w'; go_simp; with_reducible rfl⟩) (by simp only [Act.put, zar1, zar2, zar3, i64_w, i32_w]; rfl) ?_
                refine zarp 25 (some 94) zarz26 rfl rfl (any_of HT_.out (by kernel_rfl)) zarq (Or.inl ⟨by rfl, by intro w'; go_simp; with_reducible rfl⟩) (by simp only [Act.put, zar1, zar2, zar3, i64_w, i32_w]; rfl) ?_
                refine done_ (done_of HT_.out (by kernel_rfl)) ?_
                try go_wp2
                go_meet
                case rel => exact ⟨_, H', ⟨by have := HJ4.out; have := HK2.out; first | omega | exact Nat.le_refl _⟩, ⟨zK BK606⟩, ⟨zK BK607⟩, ⟨zB⟩⟩
               ·
                replace c58 := Bool.eq_false_iff.mpr c58; subst c58
                have H1 : (some false) = some r := by rw [if_neg (show ¬ (false = true) by decide)] at H; exact H
                clear H; have H := H1; clear H1; obtain rfl := Option.some.inj H; have hnb69 := NB606_607.out; have hnc69 := NB607_606.out; have hnb70 := NB606_618.out; have hnc70 := NB618_606.out; have hnb71 := NB606_625.out; have hnc71 := NB625_606.out; obtain ⟨hcz72_0, hcz72_1, hcz72_2⟩ := zC3 BK606; obtain ⟨hfz72_0, hfz72_1, hfz72_2⟩ := zZ3 BK606
                try go_wp2
                replace HO_619002 := Aside0.mk (Kd.R_drew HO_619002.out); replace HO_626002 := Aside0.mk (Kd.R_drew HO_626002.out); replace BK606 := Aside0.mk (blk_drew BK606.out); replace BK607 := Aside0.mk (blk_drew BK607.out); replace BK618 := Aside0.mk (blk_drew BK618.out); replace BK625 := Aside0.mk (blk_drew BK625.out); replace HB := Aside0.mk (below_drew1 HB.out); 
                refine start_ (n := 26) (S := fun w' => w'.cell? ⟨gb606, 0, none⟩ = some (.int .i64 a0_0) ∧ w'.cell? ⟨gb606, 1, none⟩ = some (.int .i64 a0_1) ∧ w'.cell? ⟨gb606, 2, none⟩ = some (.slice A0_2 l0_2.length c0_2) ∧ w'.cell? ⟨gb618, 0, none⟩ = some (.int .i64 t612) ∧ w'.cell? ⟨gb618, 1, none⟩ = some (.int .i64 t613) ∧ w'.cell? ⟨gb618, 2, none⟩ = some (.slice Ao34 t614.length co34)) (ds := []) zarz0 (by kernel_rfl) rfl rfl ⟨(blk_cell BK606.out 0).trans rfl, (blk_cell BK606.out 1).trans rfl, (blk_cell BK606.out 2).trans rfl, (blk_cell BK618.out 0).trans rfl, (blk_cell BK618.out 1).trans rfl, (blk_cell BK618.out 2).trans rfl⟩ (fun hHeld => ?_); refine with_tabW annuitantlaw36_BankBack.tab14 annuitantlaw36_BankBack.bits14 (fun HT_ HW_ => ?_)
                generalize wr.drew = w73 at HO_619002 HO_626002 BK606 BK607 BK618 BK625 HB hHeld ⊢
                refine zarp 0 (some 69) zarz1 rfl rfl (any_of HT_.out (by kernel_rfl)) zarq (Or.inl ⟨by rfl, by intro w'; go_simp; with_reducible rfl⟩) (by simp only [Act.put, zar1, zar2, zar3, i64_w, i32_w]; rfl) ?_
                refine zarp 1 (some 70) zarz2 rfl rfl (any_of HT_.out (by kernel_rfl)) zarq (Or.inl ⟨by rfl, by intro w'; go_simp; with_reducible rfl⟩) (by simp only [Act.put, zar1, zar2, zar3, i64_w, i32_w]; rfl) ?_
                refine zarp 2 (some 71) zarz3 rfl rfl (any_of HT_.out (by kernel_rfl)) zarq (Or.inl ⟨by rfl, by intro w'; go_simp; with_reducible rfl⟩) (by simp only [Act.put, zar1, zar2, zar3, i64_w, i32_w]; rfl) ?_
                refine zarp 3 (some 72) zarz4 rfl rfl (any_of HT_.out (by kernel_rfl)) zarq (Or.inl ⟨by rfl, by intro w'; go_simp; with_reducible rfl⟩) (by simp only [Act.put, zar1, zar2, zar3, i64_w, i32_w]; rfl) ?_
                refine zarp 4 (some 73) zarz5 rfl rfl (any_of HT_.out (by kernel_rfl)) zarq (Or.inl ⟨by rfl, by intro w'; go_simp; with_reducible rfl⟩) (by simp only [Act.put, zar1, zar2, zar3, i64_w, i32_w]; rfl) ?_
                refine zarp 5 (some 74) zarz6 rfl rfl (any_of HT_.out (by kernel_rfl)) zarq (Or.inl ⟨by rfl, by intro w'; go_simp; with_reducible rfl⟩) (by simp only [Act.put, zar1, zar2, zar3, i64_w, i32_w]; rfl) ?_
                refine zarp 6 (some 75) zarz7 rfl rfl (any_of HT_.out (by kernel_rfl)) zarq (Or.inl ⟨by rfl, by intro w'; go_simp; with_reducible rfl⟩) (by simp only [Act.put, zar1, zar2, zar3, i64_w, i32_w]; rfl) ?_
                refine zarp 7 (some 76) zarz8 rfl rfl (any_of HT_.out (by kernel_rfl)) zarq (Or.inl ⟨by rfl, by intro w'; go_simp; with_reducible rfl⟩) (by simp only [Act.put, zar1, zar2, zar3, i64_w, i32_w]; rfl) ?_
                refine zarp 8 (some 77) zarz9 rfl rfl (any_of HT_.out (by kernel_rfl)) zarq (Or.inl ⟨by rfl, by intro w'; go_simp; with_reducible rfl⟩) (by simp only [Act.put, zar1, zar2, zar3, i64_w, i32_w]; rfl) ?_
                refine zarp 9 (some 78) zarz10 rfl rfl (any_of HT_.out (by kernel_rfl)) zarq (Or.inl ⟨by rfl, by intro w'; go_simp; with_reducible rfl⟩) (by simp only [Act.put, zar1, zar2, zar3, i64_w, i32_w]; rfl) ?_
                refine zarp 10 (some 79) zarz11 rfl rfl (any_of HT_.out (by kernel_rfl)) zarq (Or.inl ⟨by rfl, by intro w'; go_simp; with_reducible rfl⟩) (by simp only [Act.put, zar1, zar2, zar3, i64_w, i32_w]; rfl) ?_
                refine zarp 11 (some 80) zarz12 rfl rfl (any_of HT_.out (by kernel_rfl)) zarq (Or.inl ⟨by rfl, by intro w'; go_simp; with_reducible rfl⟩) (by simp only [Act.put, zar1, zar2, zar3, i64_w, i32_w]; rfl) ?_
                refine zarp 12 (some 81) zarz13 rfl rfl (any_of HT_.out (by kernel_rfl)) zarq (Or.inl ⟨by rfl, by intro w'; go_simp; with_reducible rfl⟩) (by simp only [Act.put, zar1, zar2, zar3, i64_w, i32_w]; rfl) ?_
                refine zarp 13 (some 82) zarz14 rfl rfl (any_of HT_.out (by kernel_rfl)) zarq (Or.inl ⟨by rfl, by intro w'; go_simp; with_reducible rfl⟩) (by simp only [Act.put, zar1, zar2, zar3, i64_w, i32_w]; rfl) ?_
                refine zarp 14 (some 83) zarz15 rfl rfl (any_of HT_.out (by kernel_rfl)) zarq (Or.inl ⟨by rfl, by intro w'; go_simp; with_reducible rfl⟩) (by simp only [Act.put, zar1, zar2, zar3, i64_w, i32_w]; rfl) ?_
                refine zarp 15 (some 84) zarz16 rfl rfl (any_of HT_.out (by kernel_rfl)) zarq (Or.inl ⟨by rfl, by intro w'; go_simp; with_reducible rfl⟩) (by simp only [Act.put, zar1, zar2, zar3, i64_w, i32_w]; rfl) ?_
                refine zarp 16 (some 85) zarz17 rfl rfl (any_of HT_.out (by kernel_rfl)) zarq (Or.inl ⟨by rfl, by intro w'; go_simp; with_reducible rfl⟩) (by simp only [Act.put, zar1, zar2, zar3, i64_w, i32_w]; rfl) ?_
                refine zarp 17 (some 86) zarz18 rfl rfl (any_of HT_.out (by kernel_rfl)) zarq (Or.inl ⟨by rfl, by intro w'; go_simp; with_reducible rfl⟩) (by simp only [Act.put, zar1, zar2, zar3, i64_w, i32_w]; rfl) ?_
                refine zarp 18 (some 87) zarz19 rfl rfl (any_of HT_.out (by kernel_rfl)) zarq (Or.inl ⟨by rfl, by intro w'; go_simp; with_reducible rfl⟩) (by simp only [Act.put, zar1, zar2, zar3, i64_w, i32_w]; rfl) ?_
                refine take_ (i := 19) (N := some 88) (v := ?_) (a' := ?_) zarz20 rfl rfl (take_ofW HT_.out HW_.out (by kernel_rfl)) (fun _ _ _ h => h) (Or.inl ⟨by rfl, ?_⟩) hHeld ?_ ?_
                rotate_left
                ·
                 rintro w' ⟨s0, s1, s2, s3, s4, s5⟩
                 go_simp
                 with_reducible rfl
                rotate_left
                · simp only [Act.put, zar1, zar2, zar3, i64_w, i32_w]; rfl
                refine take_ (i := 21) (N := some 90) (v := ?_) (a' := ?_) zarz21 rfl rfl (take_ofW HT_.out HW_.out (by kernel_rfl)) (fun _ _ _ h => h) (Or.inl ⟨by rfl, ?_⟩) hHeld ?_ ?_
                rotate_left
                ·
                 rintro w' ⟨s0, s1, s2, s3, s4, s5⟩
                 go_simp
                 with_reducible rfl
                rotate_left
                · simp only [Act.put, zar1, zar2, zar3, i64_w, i32_w]; rfl
                refine one_ (i := 20) (N := some 89) zarz22 rfl rfl (one_of HT_.out (by kernel_rfl)) (by decide) (fun K hK => ?_)
                refine goes_ Tryz.func14 (by kernel_rfl) rfl #[.agg #[.int .i64 a0_0, .int .i64 a0_1, .slice A0_2 l0_2.length c0_2]] (by rfl) rfl rfl (by (try simp only [List.map_toArray, List.map_cons, List.map_nil]); try rfl) ?_
                with_reducible refine (annuitantlaw36_plain.calls a0_0 a0_1 (fun k_ => k_ < w.heap.size) _ _ l0_2 t629 t630 t631 _ ?side1 A55.out).mono ?_
                (case side1 => exact Kd.V_mk HC0_2.out (Kd.F_below (Kd.C_F k47_heap HR0_2.out) zB))
                rintro e w74 ⟨v632, rfl, ho0, hb⟩
                refine ⟨_, rfl, ?_⟩
                have n0_ := Aside0.mk (Kd.R_below (zR HO_619002) hb)
                have n1_ := Aside0.mk (Kd.R_below (zR HO_626002) hb)
                have n2_ := Aside0.mk (Kd.V_lower (Kd.V_mono (ok' := fun k_ => some k_ ≠ (.slice Ao34 t614.length co34 : Value).ownBlock ∧ some k_ ≠ (.slice Ao41 t621.length co41 : Value).ownBlock ∧ k_ ≠ gb606 ∧ k_ ≠ gb607 ∧ k_ ≠ gb618 ∧ k_ ≠ gb625) ho0 (fun k_ hk_ => ⟨Or.elim hk_ (fun hs_ => fun e_ => Nat.not_le.2 hs_ (Kd.R_base HO_619002.out k_ e_.symm)) (fun hn_ => (Kd.fresh' (Kd.R_lt (zR HO_619002)) k_ hn_)), Or.elim hk_ (fun hs_ => fun e_ => Nat.not_le.2 hs_ (Kd.R_base HO_626002.out k_ e_.symm)) (fun hn_ => (Kd.fresh' (Kd.R_lt (zR HO_626002)) k_ hn_)), Or.elim hk_ (fun hs_ => fun e_ => Nat.not_le.2 hs_ (by rw [e_]; exact GW606.out)) (fun hn_ => (Kd.freshB (g := gb606) (o := .cells #[.int .i64 a0_0, .int .i64 a0_1, .slice A0_2 l0_2.length c0_2] 27 (0, 0)) (zK BK606) k_ hn_)), Or.elim hk_ (fun hs_ => fun e_ => Nat.not_le.2 hs_ (by rw [e_]; exact GW607.out)) (fun hn_ => (Kd.freshB (g := gb607) (o := .cells #[.int .i64 a1_0, .int .i64 a1_1, .slice A1_2 l1_2.length c1_2] 30 (0, 0)) (zK BK607) k_ hn_)), Or.elim hk_ (fun hs_ => fun e_ => Nat.not_le.2 hs_ (by rw [e_]; exact GW618.out)) (fun hn_ => (Kd.freshB (g := gb618) (o := .cells #[.int .i64 t612, .int .i64 t613, .slice Ao34 t614.length co34] 27 (0, 0)) (zK BK618) k_ hn_)), Or.elim hk_ (fun hs_ => fun e_ => Nat.not_le.2 hs_ (by rw [e_]; exact GW625.out)) (fun hn_ => (Kd.freshB (g := gb625) (o := .cells #[.int .i64 t619, .int .i64 t620, .slice Ao41 t621.length co41] 30 (0, 0)) (zK BK625) k_ hn_))⟩)) (below_size zB))
                have n3_ := zKb BK606 hb
                have n4_ := zKb BK607 hb
                have n5_ := zKb BK618 hb
                have n6_ := zKb BK625 hb
                have n7_ := zBs hb; clear HO_619002; clear HO_626002; clear BK606; clear BK607; clear BK618; clear BK625; clear HB; have HO_619002 := n0_; have HO_626002 := n1_; have HO633 := n2_; have BK606 := n3_; have BK607 := n4_; have BK618 := n5_; have BK625 := n6_; have HB := n7_; clear n0_ n1_ n2_ n3_ n4_ n5_ n6_ n7_
                (try clear hb)
                (try clear hb2)
                (try clear hk)
                (try clear hi)
                (try clear ho0)
                refine hK.out _ _ ⟨(blk_cell BK606.out 0).trans rfl, (blk_cell BK606.out 1).trans rfl, (blk_cell BK606.out 2).trans rfl, (blk_cell BK618.out 0).trans rfl, (blk_cell BK618.out 1).trans rfl, (blk_cell BK618.out 2).trans rfl⟩ (fun hHeld => ?_)
                clear hK K
                refine norm_ (a' := ?_) ?_ ?_
                rotate_left
                ·
                 show Act.put _ (some 89) _ = _
                 simp only [Act.put, zar1, zar2, zar3, i64_w, i32_w]
                 rfl
                refine one_ (i := 22) (N := some 91) zarz23 rfl rfl (one_of HT_.out (by kernel_rfl)) (by decide) (fun K hK => ?_)
                refine goes_ Tryz.func14 (by kernel_rfl) rfl #[.agg #[.int .i64 t612, .int .i64 t613, .slice Ao34 t614.length co34]] (by rfl) rfl rfl (by (try simp only [List.map_toArray, List.map_cons, List.map_nil]); try rfl) ?_
                with_reducible refine (annuitantlaw36_plain.calls t612 t613 (fun k_ => some k_ = (.slice Ao34 t614.length co34 : Value).ownBlock) _ _ t614 t634 t635 t636 _ ?side1 A56.out).mono ?_
                (case side1 => exact Kd.R_V (Kd.R_tight rfl (Kd.R_types (Kd.R_types (Kd.R_types (Kd.R_types (Kd.R_apart' (HO_619002.out) (Kd.R_typed HO_626002.out) (by decide)) BK606.out (by decide)) BK607.out (by decide)) BK618.out (by decide)) BK625.out (by decide))))
                rintro e w75 ⟨v637, rfl, ho0, hb⟩
                refine ⟨_, rfl, ?_⟩
                have n0_ := Aside0.mk (Kd.R_below (zR HO_619002) hb)
                have n1_ := Aside0.mk (Kd.R_below (zR HO_626002) hb)
                have n2_ := Aside0.mk (Kd.V_below (zV HO633) hb)
                have n3_ := Aside0.mk (Kd.V_lower (Kd.V_mono (ok' := fun k_ => some k_ ≠ (.slice Ao41 t621.length co41 : Value).ownBlock ∧ k_ ≠ gb606 ∧ k_ ≠ gb607 ∧ k_ ≠ gb618 ∧ k_ ≠ gb625) ho0 (fun k_ hk_ => ⟨Or.elim hk_ (fun hs_ => ((Kd.R_types (Kd.R_types (Kd.R_types (Kd.R_types (Kd.R_apart' (HO_619002.out) (Kd.R_typed HO_626002.out) (by decide)) BK606.out (by decide)) BK607.out (by decide)) BK618.out (by decide)) BK625.out (by decide)).1 k_ hs_.symm).1.1.1.1.2) (fun hn_ => (Kd.fresh' (Kd.R_lt (zR HO_626002)) k_ hn_)), Or.elim hk_ (fun hs_ => ((Kd.R_types (Kd.R_types (Kd.R_types (Kd.R_types (Kd.R_apart' (HO_619002.out) (Kd.R_typed HO_626002.out) (by decide)) BK606.out (by decide)) BK607.out (by decide)) BK618.out (by decide)) BK625.out (by decide)).1 k_ hs_.symm).1.1.1.2) (fun hn_ => (Kd.freshB (g := gb606) (o := .cells #[.int .i64 a0_0, .int .i64 a0_1, .slice A0_2 l0_2.length c0_2] 27 (0, 0)) (zK BK606) k_ hn_)), Or.elim hk_ (fun hs_ => ((Kd.R_types (Kd.R_types (Kd.R_types (Kd.R_types (Kd.R_apart' (HO_619002.out) (Kd.R_typed HO_626002.out) (by decide)) BK606.out (by decide)) BK607.out (by decide)) BK618.out (by decide)) BK625.out (by decide)).1 k_ hs_.symm).1.1.2) (fun hn_ => (Kd.freshB (g := gb607) (o := .cells #[.int .i64 a1_0, .int .i64 a1_1, .slice A1_2 l1_2.length c1_2] 30 (0, 0)) (zK BK607) k_ hn_)), Or.elim hk_ (fun hs_ => ((Kd.R_types (Kd.R_types (Kd.R_types (Kd.R_types (Kd.R_apart' (HO_619002.out) (Kd.R_typed HO_626002.out) (by decide)) BK606.out (by decide)) BK607.out (by decide)) BK618.out (by decide)) BK625.out (by decide)).1 k_ hs_.symm).1.2) (fun hn_ => (Kd.freshB (g := gb618) (o := .cells #[.int .i64 t612, .int .i64 t613, .slice Ao34 t614.length co34] 27 (0, 0)) (zK BK618) k_ hn_)), Or.elim hk_ (fun hs_ => ((Kd.R_types (Kd.R_types (Kd.R_types (Kd.R_types (Kd.R_apart' (HO_619002.out) (Kd.R_typed HO_626002.out) (by decide)) BK606.out (by decide)) BK607.out (by decide)) BK618.out (by decide)) BK625.out (by decide)).1 k_ hs_.symm).2) (fun hn_ => (Kd.freshB (g := gb625) (o := .cells #[.int .i64 t619, .int .i64 t620, .slice Ao41 t621.length co41] 30 (0, 0)) (zK BK625) k_ hn_))⟩)) (below_size zB))
                have n4_ := zKb BK606 hb
                have n5_ := zKb BK607 hb
                have n6_ := zKb BK618 hb
                have n7_ := zKb BK625 hb
                have n8_ := zBs hb; clear HO_619002; clear HO_626002; clear HO633; clear BK606; clear BK607; clear BK618; clear BK625; clear HB; have HO_619002 := n0_; have HO_626002 := n1_; have HO633 := n2_; have HO638 := n3_; have BK606 := n4_; have BK607 := n5_; have BK618 := n6_; have BK625 := n7_; have HB := n8_; clear n0_ n1_ n2_ n3_ n4_ n5_ n6_ n7_ n8_
                (try clear hb)
                (try clear hb2)
                (try clear hk)
                (try clear hi)
                (try clear ho0)
                obtain ⟨Ao76, co76, eo76⟩ := Kd.V_slice HO633.out
                (first | subst eo76 | (injection eo76 with f1_ f2_ f3_; have f4_ := f1_.symm; have f5_ := f3_.symm; clear f1_ f2_ f3_; subst f4_; subst f5_))
                obtain ⟨Ao77, co77, eo77⟩ := Kd.V_slice HO638.out
                (first | subst eo77 | (injection eo77 with f1_ f2_ f3_; have f4_ := f1_.symm; have f5_ := f3_.symm; clear f1_ f2_ f3_; subst f4_; subst f5_))
                refine hK.out _ _ ⟨(blk_cell BK606.out 0).trans rfl, (blk_cell BK606.out 1).trans rfl, (blk_cell BK606.out 2).trans rfl, (blk_cell BK618.out 0).trans rfl, (blk_cell BK618.out 1).trans rfl, (blk_cell BK618.out 2).trans rfl⟩ (fun hHeld => ?_)
                clear hK K
                refine norm_ (a' := ?_) ?_ ?_
                rotate_left
                ·
                 show Act.put _ (some 91) _ = _
                 simp only [Act.put, zar1, zar2, zar3, i64_w, i32_w]
                 rfl
                refine one_ (i := 23) (N := some 92) zarz24 rfl rfl (one_of HT_.out (by kernel_rfl)) (by decide) (fun K hK => ?_)
                refine goes_ Tryz.func27 (by kernel_rfl) rfl #[.agg #[.int .i64 t629, .int .i64 t630, .slice Ao76 t631.length co76], .agg #[.int .i64 t634, .int .i64 t635, .slice Ao77 t636.length co77]] (by rfl) rfl rfl (by (try simp only [List.map_toArray, List.map_cons, List.map_nil]); try rfl) ?_
                with_reducible refine (annuitantlaw36_sameFile.calls k2 t629 t630 _ _ t631 t634 t635 _ _ t636 false _ ?side1 ?side2 ?side3 ?side4 A57.out).mono ?_
                (case side1 => repeat (first | exact (Kd.V_reads' HO633.out).2.2 | (with_reducible refine Kd.C_alloc ?_ _) | (with_reducible refine Kd.C_drewN ?_ _) | (with_reducible refine Kd.C_drew ?_)))
                (case side2 => exact (Kd.V_reads' HO633.out).2.1)
                (case side3 => repeat (first | exact (Kd.V_reads' HO638.out).2.2 | (with_reducible refine Kd.C_alloc ?_ _) | (with_reducible refine Kd.C_drewN ?_ _) | (with_reducible refine Kd.C_drew ?_)))
                (case side4 => exact (Kd.V_reads' HO638.out).2.1)
                rintro e w78 ⟨rfl, hb⟩
                refine ⟨_, rfl, ?_⟩
                have n0_ := Aside0.mk (Kd.R_below (zR HO_619002) hb)
                have n1_ := Aside0.mk (Kd.R_below (zR HO_626002) hb)
                have n2_ := Aside0.mk (Kd.V_below (zV HO633) hb)
                have n3_ := Aside0.mk (Kd.V_below (zV HO638) hb)
                have n4_ := zKb BK606 hb
                have n5_ := zKb BK607 hb
                have n6_ := zKb BK618 hb
                have n7_ := zKb BK625 hb
                have n8_ := zBs hb; clear HO_619002; clear HO_626002; clear HO633; clear HO638; clear BK606; clear BK607; clear BK618; clear BK625; clear HB; have HO_619002 := n0_; have HO_626002 := n1_; have HO633 := n2_; have HO638 := n3_; have BK606 := n4_; have BK607 := n5_; have BK618 := n6_; have BK625 := n7_; have HB := n8_; clear n0_ n1_ n2_ n3_ n4_ n5_ n6_ n7_ n8_
                (try clear hb)
                (try clear hb2)
                (try clear hk)
                (try clear hi)
                refine hK.out _ _ ⟨(blk_cell BK606.out 0).trans rfl, (blk_cell BK606.out 1).trans rfl, (blk_cell BK606.out 2).trans rfl, (blk_cell BK618.out 0).trans rfl, (blk_cell BK618.out 1).trans rfl, (blk_cell BK618.out 2).trans rfl⟩ (fun hHeld => ?_)
                clear hK K
                refine norm_ (a' := ?_) ?_ ?_
                rotate_left
                ·
                 show Act.put _ (some 92) _ = _
                 simp only [Act.put, zar1, zar2, zar3, i64_w, i32_w]
                 rfl
                refine zarp 24 (some 93) zarz25 rfl rfl (any_of HT_.out (by kernel_rfl)) zarq (Or.inl ⟨by rfl, by intro w'; go_simp; with_reducible rfl⟩) (by simp only [Act.put, zar1, zar2, zar3, i64_w, i32_w]; rfl) ?_
                refine zarp 25 (some 94) zarz26 rfl rfl (any_of HT_.out (by kernel_rfl)) zarq (Or.inl ⟨by rfl, by intro w'; go_simp; with_reducible rfl⟩) (by simp only [Act.put, zar1, zar2, zar3, i64_w, i32_w]; rfl) ?_
                refine done_ (done_of HT_.out (by kernel_rfl)) ?_
                try go_wp2
                go_ret
                exact ⟨zE, zB⟩
              ·
               rw [if_neg c54] at H
               have c54b0 : (x11_2 == 0) = false := beq_eq_false_iff_ne.mpr c54; have c54b1 : (x11_2 != 0) = true := bne_iff_ne.mpr c54; obtain rfl := Option.some.inj H; have hnb79 := NB606_607.out; have hnc79 := NB607_606.out; have hnb80 := NB606_618.out; have hnc80 := NB618_606.out; have hnb81 := NB606_625.out; have hnc81 := NB625_606.out; obtain ⟨hcz82_0, hcz82_1, hcz82_2⟩ := zC3 BK606; obtain ⟨hfz82_0, hfz82_1, hfz82_2⟩ := zZ3 BK606
               try go_wp2
               replace HO_619002 := Aside0.mk (Kd.R_drew HO_619002.out); replace HO_626002 := Aside0.mk (Kd.R_drew HO_626002.out); replace BK606 := Aside0.mk (blk_drew BK606.out); replace BK607 := Aside0.mk (blk_drew BK607.out); replace BK618 := Aside0.mk (blk_drew BK618.out); replace BK625 := Aside0.mk (blk_drew BK625.out); replace HB := Aside0.mk (below_drew1 HB.out); 
               refine start_ (n := 26) (S := fun w' => True) (ds := []) zarz0 (by kernel_rfl) rfl rfl trivial (fun hHeld => ?_); refine with_tabW annuitantlaw36_BankBack.tab14 annuitantlaw36_BankBack.bits14 (fun HT_ HW_ => ?_)
               generalize wr.drew = w83 at HO_619002 HO_626002 BK606 BK607 BK618 BK625 HB hHeld ⊢
               refine zarp 0 (some 69) zarz1 rfl rfl (any_of HT_.out (by kernel_rfl)) zarq (Or.inl ⟨by rfl, by intro w'; go_simp; with_reducible rfl⟩) (by simp only [Act.put, zar1, zar2, zar3, i64_w, i32_w]; rfl) ?_
               refine zarp 1 (some 70) zarz2 rfl rfl (any_of HT_.out (by kernel_rfl)) zarq (Or.inl ⟨by rfl, by intro w'; go_simp; with_reducible rfl⟩) (by simp only [Act.put, zar1, zar2, zar3, i64_w, i32_w]; rfl) ?_
               refine zarp 2 (some 71) zarz3 rfl rfl (any_of HT_.out (by kernel_rfl)) zarq (Or.inl ⟨by rfl, by intro w'; go_simp; with_reducible rfl⟩) (by simp only [Act.put, zar1, zar2, zar3, i64_w, i32_w]; rfl) ?_
               refine zarp 3 (some 72) zarz4 rfl rfl (any_of HT_.out (by kernel_rfl)) zarq (Or.inl ⟨by rfl, by intro w'; go_simp; with_reducible rfl⟩) (by simp only [Act.put, zar1, zar2, zar3, i64_w, i32_w]; rfl) ?_
               refine zarp 4 (some 73) zarz5 rfl rfl (any_of HT_.out (by kernel_rfl)) zarq (Or.inl ⟨by rfl, by intro w'; go_simp; with_reducible rfl⟩) (by simp only [Act.put, zar1, zar2, zar3, i64_w, i32_w]; rfl) ?_
               refine zarp 5 (some 74) zarz6 rfl rfl (any_of HT_.out (by kernel_rfl)) zarq (Or.inl ⟨by rfl, by intro w'; go_simp; with_reducible rfl⟩) (by simp only [Act.put, zar1, zar2, zar3, i64_w, i32_w]; rfl) ?_
               refine zarp 6 (some 75) zarz7 rfl rfl (any_of HT_.out (by kernel_rfl)) zarq (Or.inl ⟨by rfl, by intro w'; go_simp; with_reducible rfl⟩) (by simp only [Act.put, zar1, zar2, zar3, i64_w, i32_w]; rfl) ?_
               refine zarp 7 (some 76) zarz8 rfl rfl (any_of HT_.out (by kernel_rfl)) zarq (Or.inl ⟨by rfl, by intro w'; go_simp; with_reducible rfl⟩) (by simp only [Act.put, zar1, zar2, zar3, i64_w, i32_w]; rfl) ?_
               refine zarp 8 (some 77) zarz9 rfl rfl (any_of HT_.out (by kernel_rfl)) zarq (Or.inl ⟨by rfl, by intro w'; go_simp; with_reducible rfl⟩) (by simp only [Act.put, zar1, zar2, zar3, i64_w, i32_w]; rfl) ?_
               refine zarp 9 (some 78) zarz10 rfl rfl (any_of HT_.out (by kernel_rfl)) zarq (Or.inl ⟨by rfl, by intro w'; go_simp; with_reducible rfl⟩) (by simp only [Act.put, zar1, zar2, zar3, i64_w, i32_w]; rfl) ?_
               refine zarp 10 (some 79) zarz11 rfl rfl (any_of HT_.out (by kernel_rfl)) zarq (Or.inl ⟨by rfl, by intro w'; go_simp; with_reducible rfl⟩) (by simp only [Act.put, zar1, zar2, zar3, i64_w, i32_w]; rfl) ?_
               refine zarp 11 (some 80) zarz12 rfl rfl (any_of HT_.out (by kernel_rfl)) zarq (Or.inl ⟨by rfl, by intro w'; go_simp; with_reducible rfl⟩) (by simp only [Act.put, zar1, zar2, zar3, i64_w, i32_w]; rfl) ?_
               refine zarp 12 (some 81) zarz13 rfl rfl (any_of HT_.out (by kernel_rfl)) zarq (Or.inl ⟨by rfl, by intro w'; go_simp; with_reducible rfl⟩) (by simp only [Act.put, zar1, zar2, zar3, i64_w, i32_w]; rfl) ?_
               refine zarp 13 (some 82) zarz14 rfl rfl (any_of HT_.out (by kernel_rfl)) zarq (Or.inl ⟨by rfl, by intro w'; go_simp; with_reducible rfl⟩) (by simp only [Act.put, zar1, zar2, zar3, i64_w, i32_w]; rfl) ?_
               refine zarp 14 (some 83) zarz15 rfl rfl (any_of HT_.out (by kernel_rfl)) zarq (Or.inl ⟨by rfl, by intro w'; go_simp; with_reducible rfl⟩) (by simp only [Act.put, zar1, zar2, zar3, i64_w, i32_w]; rfl) ?_
               refine zarp 15 (some 84) zarz16 rfl rfl (any_of HT_.out (by kernel_rfl)) zarq (Or.inl ⟨by rfl, by intro w'; go_simp; with_reducible rfl⟩) (by simp only [Act.put, zar1, zar2, zar3, i64_w, i32_w]; rfl) ?_
               refine zarp 16 (some 85) zarz17 rfl rfl (any_of HT_.out (by kernel_rfl)) zarq (Or.inl ⟨by rfl, by intro w'; go_simp; with_reducible rfl⟩) (by simp only [Act.put, zar1, zar2, zar3, i64_w, i32_w]; rfl) ?_
               refine zarp 17 (some 86) zarz18 rfl rfl (any_of HT_.out (by kernel_rfl)) zarq (Or.inl ⟨by rfl, by intro w'; go_simp; with_reducible rfl⟩) (by simp only [Act.put, zar1, zar2, zar3, i64_w, i32_w]; rfl) ?_
               refine zarp 18 (some 87) zarz19 rfl rfl (any_of HT_.out (by kernel_rfl)) zarq (Or.inl ⟨by rfl, by intro w'; go_simp; with_reducible rfl⟩) (by simp only [Act.put, zar1, zar2, zar3, i64_w, i32_w]; rfl) ?_
               refine zarp 19 (some 88) zarz20 rfl rfl (any_of HT_.out (by kernel_rfl)) zarq (Or.inr ⟨by rfl, rfl⟩) (by simp only [Act.put, zar1, zar2, zar3, i64_w, i32_w]; rfl) ?_
               refine zarp 20 (some 89) zarz27 rfl rfl (any_of HT_.out (by kernel_rfl)) zarq (Or.inr ⟨by rfl, rfl⟩) (by simp only [Act.put, zar1, zar2, zar3, i64_w, i32_w]; rfl) ?_
               refine zarp 21 (some 90) zarz22 rfl rfl (any_of HT_.out (by kernel_rfl)) zarq (Or.inr ⟨by rfl, rfl⟩) (by simp only [Act.put, zar1, zar2, zar3, i64_w, i32_w]; rfl) ?_
               refine zarp 22 (some 91) zarz23 rfl rfl (any_of HT_.out (by kernel_rfl)) zarq (Or.inr ⟨by rfl, rfl⟩) (by simp only [Act.put, zar1, zar2, zar3, i64_w, i32_w]; rfl) ?_
               refine zarp 23 (some 92) zarz24 rfl rfl (any_of HT_.out (by kernel_rfl)) zarq (Or.inr ⟨by rfl, rfl⟩) (by simp only [Act.put, zar1, zar2, zar3, i64_w, i32_w]; rfl) ?_
               refine zarp 24 (some 93) zarz25 rfl rfl (any_of HT_.out (by kernel_rfl)) zarq (Or.inr ⟨by rfl, rfl⟩) (by simp only [Act.put, zar1, zar2, zar3, i64_w, i32_w]; rfl) ?_
               refine zarp 25 (some 94) zarz26 rfl rfl (any_of HT_.out (by kernel_rfl)) zarq (Or.inl ⟨by rfl, by intro w'; go_simp; with_reducible rfl⟩) (by simp only [Act.put, zar1, zar2, zar3, i64_w, i32_w]; rfl) ?_
               refine done_ (done_of HT_.out (by kernel_rfl)) ?_
               try go_wp2
               go_ret
               exact ⟨zE, zB⟩
             ·
              rw [if_neg c53] at H
              have c53b0 : (t627 == 0) = false := beq_eq_false_iff_ne.mpr c53; have c53b1 : (t627 != 0) = true := bne_iff_ne.mpr c53; obtain rfl := Option.some.inj H; have hnb84 := NB606_607.out; have hnc84 := NB607_606.out; have hnb85 := NB606_618.out; have hnc85 := NB618_606.out; have hnb86 := NB606_625.out; have hnc86 := NB625_606.out; obtain ⟨hcz87_0, hcz87_1, hcz87_2⟩ := zC3 BK606; obtain ⟨hfz87_0, hfz87_1, hfz87_2⟩ := zZ3 BK606
              try go_wp2
              replace HO_619002 := Aside0.mk (Kd.R_drew HO_619002.out); replace HO_626002 := Aside0.mk (Kd.R_drew HO_626002.out); replace BK606 := Aside0.mk (blk_drew BK606.out); replace BK607 := Aside0.mk (blk_drew BK607.out); replace BK618 := Aside0.mk (blk_drew BK618.out); replace BK625 := Aside0.mk (blk_drew BK625.out); replace HB := Aside0.mk (below_drew1 HB.out); 
              refine start_ (n := 26) (S := fun w' => True) (ds := []) zarz0 (by kernel_rfl) rfl rfl trivial (fun hHeld => ?_); refine with_tabW annuitantlaw36_BankBack.tab14 annuitantlaw36_BankBack.bits14 (fun HT_ HW_ => ?_)
              generalize wr.drew = w88 at HO_619002 HO_626002 BK606 BK607 BK618 BK625 HB hHeld ⊢
              refine zarp 0 (some 69) zarz1 rfl rfl (any_of HT_.out (by kernel_rfl)) zarq (Or.inl ⟨by rfl, by intro w'; go_simp; with_reducible rfl⟩) (by simp only [Act.put, zar1, zar2, zar3, i64_w, i32_w]; rfl) ?_
              refine zarp 1 (some 70) zarz2 rfl rfl (any_of HT_.out (by kernel_rfl)) zarq (Or.inl ⟨by rfl, by intro w'; go_simp; with_reducible rfl⟩) (by simp only [Act.put, zar1, zar2, zar3, i64_w, i32_w]; rfl) ?_
              refine zarp 2 (some 71) zarz3 rfl rfl (any_of HT_.out (by kernel_rfl)) zarq (Or.inl ⟨by rfl, by intro w'; go_simp; with_reducible rfl⟩) (by simp only [Act.put, zar1, zar2, zar3, i64_w, i32_w]; rfl) ?_
              refine zarp 3 (some 72) zarz4 rfl rfl (any_of HT_.out (by kernel_rfl)) zarq (Or.inl ⟨by rfl, by intro w'; go_simp; with_reducible rfl⟩) (by simp only [Act.put, zar1, zar2, zar3, i64_w, i32_w]; rfl) ?_
              refine zarp 4 (some 73) zarz5 rfl rfl (any_of HT_.out (by kernel_rfl)) zarq (Or.inl ⟨by rfl, by intro w'; go_simp; with_reducible rfl⟩) (by simp only [Act.put, zar1, zar2, zar3, i64_w, i32_w]; rfl) ?_
              refine zarp 5 (some 74) zarz6 rfl rfl (any_of HT_.out (by kernel_rfl)) zarq (Or.inl ⟨by rfl, by intro w'; go_simp; with_reducible rfl⟩) (by simp only [Act.put, zar1, zar2, zar3, i64_w, i32_w]; rfl) ?_
              refine zarp 6 (some 75) zarz7 rfl rfl (any_of HT_.out (by kernel_rfl)) zarq (Or.inl ⟨by rfl, by intro w'; go_simp; with_reducible rfl⟩) (by simp only [Act.put, zar1, zar2, zar3, i64_w, i32_w]; rfl) ?_
              refine zarp 7 (some 76) zarz8 rfl rfl (any_of HT_.out (by kernel_rfl)) zarq (Or.inl ⟨by rfl, by intro w'; go_simp; with_reducible rfl⟩) (by simp only [Act.put, zar1, zar2, zar3, i64_w, i32_w]; rfl) ?_
              refine zarp 8 (some 77) zarz9 rfl rfl (any_of HT_.out (by kernel_rfl)) zarq (Or.inl ⟨by rfl, by intro w'; go_simp; with_reducible rfl⟩) (by simp only [Act.put, zar1, zar2, zar3, i64_w, i32_w]; rfl) ?_
              refine zarp 9 (some 78) zarz10 rfl rfl (any_of HT_.out (by kernel_rfl)) zarq (Or.inl ⟨by rfl, by intro w'; go_simp; with_reducible rfl⟩) (by simp only [Act.put, zar1, zar2, zar3, i64_w, i32_w]; rfl) ?_
              refine zarp 10 (some 79) zarz11 rfl rfl (any_of HT_.out (by kernel_rfl)) zarq (Or.inl ⟨by rfl, by intro w'; go_simp; with_reducible rfl⟩) (by simp only [Act.put, zar1, zar2, zar3, i64_w, i32_w]; rfl) ?_
              refine zarp 11 (some 80) zarz12 rfl rfl (any_of HT_.out (by kernel_rfl)) zarq (Or.inl ⟨by rfl, by intro w'; go_simp; with_reducible rfl⟩) (by simp only [Act.put, zar1, zar2, zar3, i64_w, i32_w]; rfl) ?_
              refine zarp 12 (some 81) zarz13 rfl rfl (any_of HT_.out (by kernel_rfl)) zarq (Or.inl ⟨by rfl, by intro w'; go_simp; with_reducible rfl⟩) (by simp only [Act.put, zar1, zar2, zar3, i64_w, i32_w]; rfl) ?_
              refine zarp 13 (some 82) zarz14 rfl rfl (any_of HT_.out (by kernel_rfl)) zarq (Or.inl ⟨by rfl, by intro w'; go_simp; with_reducible rfl⟩) (by simp only [Act.put, zar1, zar2, zar3, i64_w, i32_w]; rfl) ?_
              refine zarp 14 (some 83) zarz15 rfl rfl (any_of HT_.out (by kernel_rfl)) zarq (Or.inl ⟨by rfl, by intro w'; go_simp; with_reducible rfl⟩) (by simp only [Act.put, zar1, zar2, zar3, i64_w, i32_w]; rfl) ?_
              refine zarp 15 (some 84) zarz16 rfl rfl (any_of HT_.out (by kernel_rfl)) zarq (Or.inr ⟨by rfl, rfl⟩) (by simp only [Act.put, zar1, zar2, zar3, i64_w, i32_w]; rfl) ?_
              refine zarp 16 (some 85) zarz17 rfl rfl (any_of HT_.out (by kernel_rfl)) zarq (Or.inr ⟨by rfl, rfl⟩) (by simp only [Act.put, zar1, zar2, zar3, i64_w, i32_w]; rfl) ?_
              refine zarp 17 (some 86) zarz18 rfl rfl (any_of HT_.out (by kernel_rfl)) zarq (Or.inl ⟨by rfl, by intro w'; go_simp; with_reducible rfl⟩) (by simp only [Act.put, zar1, zar2, zar3, i64_w, i32_w]; rfl) ?_
              refine zarp 18 (some 87) zarz19 rfl rfl (any_of HT_.out (by kernel_rfl)) zarq (Or.inl ⟨by rfl, by intro w'; go_simp; with_reducible rfl⟩) (by simp only [Act.put, zar1, zar2, zar3, i64_w, i32_w]; rfl) ?_
              refine zarp 19 (some 88) zarz20 rfl rfl (any_of HT_.out (by kernel_rfl)) zarq (Or.inr ⟨by rfl, rfl⟩) (by simp only [Act.put, zar1, zar2, zar3, i64_w, i32_w]; rfl) ?_
              refine zarp 20 (some 89) zarz27 rfl rfl (any_of HT_.out (by kernel_rfl)) zarq (Or.inr ⟨by rfl, rfl⟩) (by simp only [Act.put, zar1, zar2, zar3, i64_w, i32_w]; rfl) ?_
              refine zarp 21 (some 90) zarz22 rfl rfl (any_of HT_.out (by kernel_rfl)) zarq (Or.inr ⟨by rfl, rfl⟩) (by simp only [Act.put, zar1, zar2, zar3, i64_w, i32_w]; rfl) ?_
              refine zarp 22 (some 91) zarz23 rfl rfl (any_of HT_.out (by kernel_rfl)) zarq (Or.inr ⟨by rfl, rfl⟩) (by simp only [Act.put, zar1, zar2, zar3, i64_w, i32_w]; rfl) ?_
              refine zarp 23 (some 92) zarz24 rfl rfl (any_of HT_.out (by kernel_rfl)) zarq (Or.inr ⟨by rfl, rfl⟩) (by simp only [Act.put, zar1, zar2, zar3, i64_w, i32_w]; rfl) ?_
              refine zarp 24 (some 93) zarz25 rfl rfl (any_of HT_.out (by kernel_rfl)) zarq (Or.inr ⟨by rfl, rfl⟩) (by simp only [Act.put, zar1, zar2, zar3, i64_w, i32_w]; rfl) ?_
              refine zarp 25 (some 94) zarz26 rfl rfl (any_of HT_.out (by kernel_rfl)) zarq (Or.inl ⟨by rfl, by intro w'; go_simp; with_reducible rfl⟩) (by simp only [Act.put, zar1, zar2, zar3, i64_w, i32_w]; rfl) ?_
              refine done_ (done_of HT_.out (by kernel_rfl)) ?_
              try go_wp2
              go_ret
              exact ⟨zE, zB⟩
            ·
             rw [if_neg c52] at H
             have c52b0 : (t624 == 360) = false := beq_eq_false_iff_ne.mpr c52; have c52b1 : (t624 != 360) = true := bne_iff_ne.mpr c52; obtain rfl := Option.some.inj H; have hnb89 := NB606_607.out; have hnc89 := NB607_606.out; have hnb90 := NB606_618.out; have hnc90 := NB618_606.out; have hnb91 := NB606_625.out; have hnc91 := NB625_606.out; obtain ⟨hcz92_0, hcz92_1, hcz92_2⟩ := zC3 BK606; obtain ⟨hfz92_0, hfz92_1, hfz92_2⟩ := zZ3 BK606
             try go_wp2
             replace HO_619002 := Aside0.mk (Kd.R_drew HO_619002.out); replace HO_626002 := Aside0.mk (Kd.R_drew HO_626002.out); replace BK606 := Aside0.mk (blk_drew BK606.out); replace BK607 := Aside0.mk (blk_drew BK607.out); replace BK618 := Aside0.mk (blk_drew BK618.out); replace BK625 := Aside0.mk (blk_drew BK625.out); replace HB := Aside0.mk (below_drew1 HB.out); 
             refine start_ (n := 26) (S := fun w' => True) (ds := []) zarz0 (by kernel_rfl) rfl rfl trivial (fun hHeld => ?_); refine with_tabW annuitantlaw36_BankBack.tab14 annuitantlaw36_BankBack.bits14 (fun HT_ HW_ => ?_)
             generalize wr.drew = w93 at HO_619002 HO_626002 BK606 BK607 BK618 BK625 HB hHeld ⊢
             refine zarp 0 (some 69) zarz1 rfl rfl (any_of HT_.out (by kernel_rfl)) zarq (Or.inl ⟨by rfl, by intro w'; go_simp; with_reducible rfl⟩) (by simp only [Act.put, zar1, zar2, zar3, i64_w, i32_w]; rfl) ?_
             refine zarp 1 (some 70) zarz2 rfl rfl (any_of HT_.out (by kernel_rfl)) zarq (Or.inl ⟨by rfl, by intro w'; go_simp; with_reducible rfl⟩) (by simp only [Act.put, zar1, zar2, zar3, i64_w, i32_w]; rfl) ?_
             refine zarp 2 (some 71) zarz3 rfl rfl (any_of HT_.out (by kernel_rfl)) zarq (Or.inl ⟨by rfl, by intro w'; go_simp; with_reducible rfl⟩) (by simp only [Act.put, zar1, zar2, zar3, i64_w, i32_w]; rfl) ?_
             refine zarp 3 (some 72) zarz4 rfl rfl (any_of HT_.out (by kernel_rfl)) zarq (Or.inl ⟨by rfl, by intro w'; go_simp; with_reducible rfl⟩) (by simp only [Act.put, zar1, zar2, zar3, i64_w, i32_w]; rfl) ?_
             refine zarp 4 (some 73) zarz5 rfl rfl (any_of HT_.out (by kernel_rfl)) zarq (Or.inl ⟨by rfl, by intro w'; go_simp; with_reducible rfl⟩) (by simp only [Act.put, zar1, zar2, zar3, i64_w, i32_w]; rfl) ?_
             refine zarp 5 (some 74) zarz6 rfl rfl (any_of HT_.out (by kernel_rfl)) zarq (Or.inl ⟨by rfl, by intro w'; go_simp; with_reducible rfl⟩) (by simp only [Act.put, zar1, zar2, zar3, i64_w, i32_w]; rfl) ?_
             refine zarp 6 (some 75) zarz7 rfl rfl (any_of HT_.out (by kernel_rfl)) zarq (Or.inl ⟨by rfl, by intro w'; go_simp; with_reducible rfl⟩) (by simp only [Act.put, zar1, zar2, zar3, i64_w, i32_w]; rfl) ?_
             refine zarp 7 (some 76) zarz8 rfl rfl (any_of HT_.out (by kernel_rfl)) zarq (Or.inl ⟨by rfl, by intro w'; go_simp; with_reducible rfl⟩) (by simp only [Act.put, zar1, zar2, zar3, i64_w, i32_w]; rfl) ?_
             refine zarp 8 (some 77) zarz9 rfl rfl (any_of HT_.out (by kernel_rfl)) zarq (Or.inl ⟨by rfl, by intro w'; go_simp; with_reducible rfl⟩) (by simp only [Act.put, zar1, zar2, zar3, i64_w, i32_w]; rfl) ?_
             refine zarp 9 (some 78) zarz10 rfl rfl (any_of HT_.out (by kernel_rfl)) zarq (Or.inl ⟨by rfl, by intro w'; go_simp; with_reducible rfl⟩) (by simp only [Act.put, zar1, zar2, zar3, i64_w, i32_w]; rfl) ?_
             refine zarp 10 (some 79) zarz11 rfl rfl (any_of HT_.out (by kernel_rfl)) zarq (Or.inl ⟨by rfl, by intro w'; go_simp; with_reducible rfl⟩) (by simp only [Act.put, zar1, zar2, zar3, i64_w, i32_w]; rfl) ?_
             refine zarp 11 (some 80) zarz12 rfl rfl (any_of HT_.out (by kernel_rfl)) zarq (Or.inr ⟨by rfl, rfl⟩) (by simp only [Act.put, zar1, zar2, zar3, i64_w, i32_w]; rfl) ?_
             refine zarp 12 (some 81) zarz13 rfl rfl (any_of HT_.out (by kernel_rfl)) zarq (Or.inr ⟨by rfl, rfl⟩) (by simp only [Act.put, zar1, zar2, zar3, i64_w, i32_w]; rfl) ?_
             refine zarp 13 (some 82) zarz14 rfl rfl (any_of HT_.out (by kernel_rfl)) zarq (Or.inl ⟨by rfl, by intro w'; go_simp; with_reducible rfl⟩) (by simp only [Act.put, zar1, zar2, zar3, i64_w, i32_w]; rfl) ?_
             refine zarp 14 (some 83) zarz15 rfl rfl (any_of HT_.out (by kernel_rfl)) zarq (Or.inl ⟨by rfl, by intro w'; go_simp; with_reducible rfl⟩) (by simp only [Act.put, zar1, zar2, zar3, i64_w, i32_w]; rfl) ?_
             refine zarp 15 (some 84) zarz16 rfl rfl (any_of HT_.out (by kernel_rfl)) zarq (Or.inr ⟨by rfl, rfl⟩) (by simp only [Act.put, zar1, zar2, zar3, i64_w, i32_w]; rfl) ?_
             refine zarp 16 (some 85) zarz17 rfl rfl (any_of HT_.out (by kernel_rfl)) zarq (Or.inr ⟨by rfl, rfl⟩) (by simp only [Act.put, zar1, zar2, zar3, i64_w, i32_w]; rfl) ?_
             refine zarp 17 (some 86) zarz18 rfl rfl (any_of HT_.out (by kernel_rfl)) zarq (Or.inl ⟨by rfl, by intro w'; go_simp; with_reducible rfl⟩) (by simp only [Act.put, zar1, zar2, zar3, i64_w, i32_w]; rfl) ?_
             refine zarp 18 (some 87) zarz19 rfl rfl (any_of HT_.out (by kernel_rfl)) zarq (Or.inl ⟨by rfl, by intro w'; go_simp; with_reducible rfl⟩) (by simp only [Act.put, zar1, zar2, zar3, i64_w, i32_w]; rfl) ?_
             refine zarp 19 (some 88) zarz20 rfl rfl (any_of HT_.out (by kernel_rfl)) zarq (Or.inr ⟨by rfl, rfl⟩) (by simp only [Act.put, zar1, zar2, zar3, i64_w, i32_w]; rfl) ?_
             refine zarp 20 (some 89) zarz27 rfl rfl (any_of HT_.out (by kernel_rfl)) zarq (Or.inr ⟨by rfl, rfl⟩) (by simp only [Act.put, zar1, zar2, zar3, i64_w, i32_w]; rfl) ?_
             refine zarp 21 (some 90) zarz22 rfl rfl (any_of HT_.out (by kernel_rfl)) zarq (Or.inr ⟨by rfl, rfl⟩) (by simp only [Act.put, zar1, zar2, zar3, i64_w, i32_w]; rfl) ?_
             refine zarp 22 (some 91) zarz23 rfl rfl (any_of HT_.out (by kernel_rfl)) zarq (Or.inr ⟨by rfl, rfl⟩) (by simp only [Act.put, zar1, zar2, zar3, i64_w, i32_w]; rfl) ?_
             refine zarp 23 (some 92) zarz24 rfl rfl (any_of HT_.out (by kernel_rfl)) zarq (Or.inr ⟨by rfl, rfl⟩) (by simp only [Act.put, zar1, zar2, zar3, i64_w, i32_w]; rfl) ?_
             refine zarp 24 (some 93) zarz25 rfl rfl (any_of HT_.out (by kernel_rfl)) zarq (Or.inr ⟨by rfl, rfl⟩) (by simp only [Act.put, zar1, zar2, zar3, i64_w, i32_w]; rfl) ?_
             refine zarp 25 (some 94) zarz26 rfl rfl (any_of HT_.out (by kernel_rfl)) zarq (Or.inl ⟨by rfl, by intro w'; go_simp; with_reducible rfl⟩) (by simp only [Act.put, zar1, zar2, zar3, i64_w, i32_w]; rfl) ?_
             refine done_ (done_of HT_.out (by kernel_rfl)) ?_
             try go_wp2
             go_ret
             exact ⟨zE, zB⟩
           ·
            rw [if_neg c51] at H
            have c51b0 : (t617 == 0) = false := beq_eq_false_iff_ne.mpr c51; have c51b1 : (t617 != 0) = true := bne_iff_ne.mpr c51; obtain rfl := Option.some.inj H; have hnb94 := NB606_607.out; have hnc94 := NB607_606.out; have hnb95 := NB606_618.out; have hnc95 := NB618_606.out; have hnb96 := NB606_625.out; have hnc96 := NB625_606.out; obtain ⟨hcz97_0, hcz97_1, hcz97_2⟩ := zC3 BK606; obtain ⟨hfz97_0, hfz97_1, hfz97_2⟩ := zZ3 BK606
            try go_wp2
            replace HO_619002 := Aside0.mk (Kd.R_drew HO_619002.out); replace HO_626002 := Aside0.mk (Kd.R_drew HO_626002.out); replace BK606 := Aside0.mk (blk_drew BK606.out); replace BK607 := Aside0.mk (blk_drew BK607.out); replace BK618 := Aside0.mk (blk_drew BK618.out); replace BK625 := Aside0.mk (blk_drew BK625.out); replace HB := Aside0.mk (below_drew1 HB.out); 
            refine start_ (n := 26) (S := fun w' => True) (ds := []) zarz0 (by kernel_rfl) rfl rfl trivial (fun hHeld => ?_); refine with_tabW annuitantlaw36_BankBack.tab14 annuitantlaw36_BankBack.bits14 (fun HT_ HW_ => ?_)
            generalize wr.drew = w98 at HO_619002 HO_626002 BK606 BK607 BK618 BK625 HB hHeld ⊢
            refine zarp 0 (some 69) zarz1 rfl rfl (any_of HT_.out (by kernel_rfl)) zarq (Or.inl ⟨by rfl, by intro w'; go_simp; with_reducible rfl⟩) (by simp only [Act.put, zar1, zar2, zar3, i64_w, i32_w]; rfl) ?_
            refine zarp 1 (some 70) zarz2 rfl rfl (any_of HT_.out (by kernel_rfl)) zarq (Or.inl ⟨by rfl, by intro w'; go_simp; with_reducible rfl⟩) (by simp only [Act.put, zar1, zar2, zar3, i64_w, i32_w]; rfl) ?_
            refine zarp 2 (some 71) zarz3 rfl rfl (any_of HT_.out (by kernel_rfl)) zarq (Or.inl ⟨by rfl, by intro w'; go_simp; with_reducible rfl⟩) (by simp only [Act.put, zar1, zar2, zar3, i64_w, i32_w]; rfl) ?_
            refine zarp 3 (some 72) zarz4 rfl rfl (any_of HT_.out (by kernel_rfl)) zarq (Or.inl ⟨by rfl, by intro w'; go_simp; with_reducible rfl⟩) (by simp only [Act.put, zar1, zar2, zar3, i64_w, i32_w]; rfl) ?_
            refine zarp 4 (some 73) zarz5 rfl rfl (any_of HT_.out (by kernel_rfl)) zarq (Or.inl ⟨by rfl, by intro w'; go_simp; with_reducible rfl⟩) (by simp only [Act.put, zar1, zar2, zar3, i64_w, i32_w]; rfl) ?_
            refine zarp 5 (some 74) zarz6 rfl rfl (any_of HT_.out (by kernel_rfl)) zarq (Or.inl ⟨by rfl, by intro w'; go_simp; with_reducible rfl⟩) (by simp only [Act.put, zar1, zar2, zar3, i64_w, i32_w]; rfl) ?_
            refine zarp 6 (some 75) zarz7 rfl rfl (any_of HT_.out (by kernel_rfl)) zarq (Or.inl ⟨by rfl, by intro w'; go_simp; with_reducible rfl⟩) (by simp only [Act.put, zar1, zar2, zar3, i64_w, i32_w]; rfl) ?_
            refine zarp 7 (some 76) zarz8 rfl rfl (any_of HT_.out (by kernel_rfl)) zarq (Or.inr ⟨by rfl, rfl⟩) (by simp only [Act.put, zar1, zar2, zar3, i64_w, i32_w]; rfl) ?_
            refine zarp 8 (some 77) zarz9 rfl rfl (any_of HT_.out (by kernel_rfl)) zarq (Or.inr ⟨by rfl, rfl⟩) (by simp only [Act.put, zar1, zar2, zar3, i64_w, i32_w]; rfl) ?_
            refine zarp 9 (some 78) zarz10 rfl rfl (any_of HT_.out (by kernel_rfl)) zarq (Or.inl ⟨by rfl, by intro w'; go_simp; with_reducible rfl⟩) (by simp only [Act.put, zar1, zar2, zar3, i64_w, i32_w]; rfl) ?_
            refine zarp 10 (some 79) zarz11 rfl rfl (any_of HT_.out (by kernel_rfl)) zarq (Or.inl ⟨by rfl, by intro w'; go_simp; with_reducible rfl⟩) (by simp only [Act.put, zar1, zar2, zar3, i64_w, i32_w]; rfl) ?_
            refine zarp 11 (some 80) zarz12 rfl rfl (any_of HT_.out (by kernel_rfl)) zarq (Or.inr ⟨by rfl, rfl⟩) (by simp only [Act.put, zar1, zar2, zar3, i64_w, i32_w]; rfl) ?_
            refine zarp 12 (some 81) zarz13 rfl rfl (any_of HT_.out (by kernel_rfl)) zarq (Or.inr ⟨by rfl, rfl⟩) (by simp only [Act.put, zar1, zar2, zar3, i64_w, i32_w]; rfl) ?_
            refine zarp 13 (some 82) zarz14 rfl rfl (any_of HT_.out (by kernel_rfl)) zarq (Or.inl ⟨by rfl, by intro w'; go_simp; with_reducible rfl⟩) (by simp only [Act.put, zar1, zar2, zar3, i64_w, i32_w]; rfl) ?_
            refine zarp 14 (some 83) zarz15 rfl rfl (any_of HT_.out (by kernel_rfl)) zarq (Or.inl ⟨by rfl, by intro w'; go_simp; with_reducible rfl⟩) (by simp only [Act.put, zar1, zar2, zar3, i64_w, i32_w]; rfl) ?_
            refine zarp 15 (some 84) zarz16 rfl rfl (any_of HT_.out (by kernel_rfl)) zarq (Or.inr ⟨by rfl, rfl⟩) (by simp only [Act.put, zar1, zar2, zar3, i64_w, i32_w]; rfl) ?_
            refine zarp 16 (some 85) zarz17 rfl rfl (any_of HT_.out (by kernel_rfl)) zarq (Or.inr ⟨by rfl, rfl⟩) (by simp only [Act.put, zar1, zar2, zar3, i64_w, i32_w]; rfl) ?_
            refine zarp 17 (some 86) zarz18 rfl rfl (any_of HT_.out (by kernel_rfl)) zarq (Or.inl ⟨by rfl, by intro w'; go_simp; with_reducible rfl⟩) (by simp only [Act.put, zar1, zar2, zar3, i64_w, i32_w]; rfl) ?_
            refine zarp 18 (some 87) zarz19 rfl rfl (any_of HT_.out (by kernel_rfl)) zarq (Or.inl ⟨by rfl, by intro w'; go_simp; with_reducible rfl⟩) (by simp only [Act.put, zar1, zar2, zar3, i64_w, i32_w]; rfl) ?_
            refine zarp 19 (some 88) zarz20 rfl rfl (any_of HT_.out (by kernel_rfl)) zarq (Or.inr ⟨by rfl, rfl⟩) (by simp only [Act.put, zar1, zar2, zar3, i64_w, i32_w]; rfl) ?_
            refine zarp 20 (some 89) zarz27 rfl rfl (any_of HT_.out (by kernel_rfl)) zarq (Or.inr ⟨by rfl, rfl⟩) (by simp only [Act.put, zar1, zar2, zar3, i64_w, i32_w]; rfl) ?_
            refine zarp 21 (some 90) zarz22 rfl rfl (any_of HT_.out (by kernel_rfl)) zarq (Or.inr ⟨by rfl, rfl⟩) (by simp only [Act.put, zar1, zar2, zar3, i64_w, i32_w]; rfl) ?_
            refine zarp 22 (some 91) zarz23 rfl rfl (any_of HT_.out (by kernel_rfl)) zarq (Or.inr ⟨by rfl, rfl⟩) (by simp only [Act.put, zar1, zar2, zar3, i64_w, i32_w]; rfl) ?_
            refine zarp 23 (some 92) zarz24 rfl rfl (any_of HT_.out (by kernel_rfl)) zarq (Or.inr ⟨by rfl, rfl⟩) (by simp only [Act.put, zar1, zar2, zar3, i64_w, i32_w]; rfl) ?_
            refine zarp 24 (some 93) zarz25 rfl rfl (any_of HT_.out (by kernel_rfl)) zarq (Or.inr ⟨by rfl, rfl⟩) (by simp only [Act.put, zar1, zar2, zar3, i64_w, i32_w]; rfl) ?_
            refine zarp 25 (some 94) zarz26 rfl rfl (any_of HT_.out (by kernel_rfl)) zarq (Or.inl ⟨by rfl, by intro w'; go_simp; with_reducible rfl⟩) (by simp only [Act.put, zar1, zar2, zar3, i64_w, i32_w]; rfl) ?_
            refine done_ (done_of HT_.out (by kernel_rfl)) ?_
            try go_wp2
            go_ret
            exact ⟨zE, zB⟩
          ·
           rw [if_neg c50] at H
           have c50b0 : (t611 == 0) = false := beq_eq_false_iff_ne.mpr c50; have c50b1 : (t611 != 0) = true := bne_iff_ne.mpr c50; obtain rfl := Option.some.inj H; have hnb99 := NB606_607.out; have hnc99 := NB607_606.out; have hnb100 := NB606_618.out; have hnc100 := NB618_606.out; have hnb101 := NB606_625.out; have hnc101 := NB625_606.out; obtain ⟨hcz102_0, hcz102_1, hcz102_2⟩ := zC3 BK606; obtain ⟨hfz102_0, hfz102_1, hfz102_2⟩ := zZ3 BK606
           try go_wp2
           replace HO_619002 := Aside0.mk (Kd.R_drew HO_619002.out); replace HO_626002 := Aside0.mk (Kd.R_drew HO_626002.out); replace BK606 := Aside0.mk (blk_drew BK606.out); replace BK607 := Aside0.mk (blk_drew BK607.out); replace BK618 := Aside0.mk (blk_drew BK618.out); replace BK625 := Aside0.mk (blk_drew BK625.out); replace HB := Aside0.mk (below_drew1 HB.out); 
           refine start_ (n := 26) (S := fun w' => True) (ds := []) zarz0 (by kernel_rfl) rfl rfl trivial (fun hHeld => ?_); refine with_tabW annuitantlaw36_BankBack.tab14 annuitantlaw36_BankBack.bits14 (fun HT_ HW_ => ?_)
           generalize wr.drew = w103 at HO_619002 HO_626002 BK606 BK607 BK618 BK625 HB hHeld ⊢
           refine zarp 0 (some 69) zarz1 rfl rfl (any_of HT_.out (by kernel_rfl)) zarq (Or.inl ⟨by rfl, by intro w'; go_simp; with_reducible rfl⟩) (by simp only [Act.put, zar1, zar2, zar3, i64_w, i32_w]; rfl) ?_
           refine zarp 1 (some 70) zarz2 rfl rfl (any_of HT_.out (by kernel_rfl)) zarq (Or.inl ⟨by rfl, by intro w'; go_simp; with_reducible rfl⟩) (by simp only [Act.put, zar1, zar2, zar3, i64_w, i32_w]; rfl) ?_
           refine zarp 2 (some 71) zarz3 rfl rfl (any_of HT_.out (by kernel_rfl)) zarq (Or.inl ⟨by rfl, by intro w'; go_simp; with_reducible rfl⟩) (by simp only [Act.put, zar1, zar2, zar3, i64_w, i32_w]; rfl) ?_
           refine zarp 3 (some 72) zarz4 rfl rfl (any_of HT_.out (by kernel_rfl)) zarq (Or.inr ⟨by rfl, rfl⟩) (by simp only [Act.put, zar1, zar2, zar3, i64_w, i32_w]; rfl) ?_
           refine zarp 4 (some 73) zarz5 rfl rfl (any_of HT_.out (by kernel_rfl)) zarq (Or.inr ⟨by rfl, rfl⟩) (by simp only [Act.put, zar1, zar2, zar3, i64_w, i32_w]; rfl) ?_
           refine zarp 5 (some 74) zarz6 rfl rfl (any_of HT_.out (by kernel_rfl)) zarq (Or.inl ⟨by rfl, by intro w'; go_simp; with_reducible rfl⟩) (by simp only [Act.put, zar1, zar2, zar3, i64_w, i32_w]; rfl) ?_
           refine zarp 6 (some 75) zarz7 rfl rfl (any_of HT_.out (by kernel_rfl)) zarq (Or.inl ⟨by rfl, by intro w'; go_simp; with_reducible rfl⟩) (by simp only [Act.put, zar1, zar2, zar3, i64_w, i32_w]; rfl) ?_
           refine zarp 7 (some 76) zarz8 rfl rfl (any_of HT_.out (by kernel_rfl)) zarq (Or.inr ⟨by rfl, rfl⟩) (by simp only [Act.put, zar1, zar2, zar3, i64_w, i32_w]; rfl) ?_
           refine zarp 8 (some 77) zarz9 rfl rfl (any_of HT_.out (by kernel_rfl)) zarq (Or.inr ⟨by rfl, rfl⟩) (by simp only [Act.put, zar1, zar2, zar3, i64_w, i32_w]; rfl) ?_
           refine zarp 9 (some 78) zarz10 rfl rfl (any_of HT_.out (by kernel_rfl)) zarq (Or.inl ⟨by rfl, by intro w'; go_simp; with_reducible rfl⟩) (by simp only [Act.put, zar1, zar2, zar3, i64_w, i32_w]; rfl) ?_
           refine zarp 10 (some 79) zarz11 rfl rfl (any_of HT_.out (by kernel_rfl)) zarq (Or.inl ⟨by rfl, by intro w'; go_simp; with_reducible rfl⟩) (by simp only [Act.put, zar1, zar2, zar3, i64_w, i32_w]; rfl) ?_
           refine zarp 11 (some 80) zarz12 rfl rfl (any_of HT_.out (by kernel_rfl)) zarq (Or.inr ⟨by rfl, rfl⟩) (by simp only [Act.put, zar1, zar2, zar3, i64_w, i32_w]; rfl) ?_
           refine zarp 12 (some 81) zarz13 rfl rfl (any_of HT_.out (by kernel_rfl)) zarq (Or.inr ⟨by rfl, rfl⟩) (by simp only [Act.put, zar1, zar2, zar3, i64_w, i32_w]; rfl) ?_
           refine zarp 13 (some 82) zarz14 rfl rfl (any_of HT_.out (by kernel_rfl)) zarq (Or.inl ⟨by rfl, by intro w'; go_simp; with_reducible rfl⟩) (by simp only [Act.put, zar1, zar2, zar3, i64_w, i32_w]; rfl) ?_
           refine zarp 14 (some 83) zarz15 rfl rfl (any_of HT_.out (by kernel_rfl)) zarq (Or.inl ⟨by rfl, by intro w'; go_simp; with_reducible rfl⟩) (by simp only [Act.put, zar1, zar2, zar3, i64_w, i32_w]; rfl) ?_
           refine zarp 15 (some 84) zarz16 rfl rfl (any_of HT_.out (by kernel_rfl)) zarq (Or.inr ⟨by rfl, rfl⟩) (by simp only [Act.put, zar1, zar2, zar3, i64_w, i32_w]; rfl) ?_
           refine zarp 16 (some 85) zarz17 rfl rfl (any_of HT_.out (by kernel_rfl)) zarq (Or.inr ⟨by rfl, rfl⟩) (by simp only [Act.put, zar1, zar2, zar3, i64_w, i32_w]; rfl) ?_
           refine zarp 17 (some 86) zarz18 rfl rfl (any_of HT_.out (by kernel_rfl)) zarq (Or.inl ⟨by rfl, by intro w'; go_simp; with_reducible rfl⟩) (by simp only [Act.put, zar1, zar2, zar3, i64_w, i32_w]; rfl) ?_
           refine zarp 18 (some 87) zarz19 rfl rfl (any_of HT_.out (by kernel_rfl)) zarq (Or.inl ⟨by rfl, by intro w'; go_simp; with_reducible rfl⟩) (by simp only [Act.put, zar1, zar2, zar3, i64_w, i32_w]; rfl) ?_
           refine zarp 19 (some 88) zarz20 rfl rfl (any_of HT_.out (by kernel_rfl)) zarq (Or.inr ⟨by rfl, rfl⟩) (by simp only [Act.put, zar1, zar2, zar3, i64_w, i32_w]; rfl) ?_
           refine zarp 20 (some 89) zarz27 rfl rfl (any_of HT_.out (by kernel_rfl)) zarq (Or.inr ⟨by rfl, rfl⟩) (by simp only [Act.put, zar1, zar2, zar3, i64_w, i32_w]; rfl) ?_
           refine zarp 21 (some 90) zarz22 rfl rfl (any_of HT_.out (by kernel_rfl)) zarq (Or.inr ⟨by rfl, rfl⟩) (by simp only [Act.put, zar1, zar2, zar3, i64_w, i32_w]; rfl) ?_
           refine zarp 22 (some 91) zarz23 rfl rfl (any_of HT_.out (by kernel_rfl)) zarq (Or.inr ⟨by rfl, rfl⟩) (by simp only [Act.put, zar1, zar2, zar3, i64_w, i32_w]; rfl) ?_
           refine zarp 23 (some 92) zarz24 rfl rfl (any_of HT_.out (by kernel_rfl)) zarq (Or.inr ⟨by rfl, rfl⟩) (by simp only [Act.put, zar1, zar2, zar3, i64_w, i32_w]; rfl) ?_
           refine zarp 24 (some 93) zarz25 rfl rfl (any_of HT_.out (by kernel_rfl)) zarq (Or.inr ⟨by rfl, rfl⟩) (by simp only [Act.put, zar1, zar2, zar3, i64_w, i32_w]; rfl) ?_
           refine zarp 25 (some 94) zarz26 rfl rfl (any_of HT_.out (by kernel_rfl)) zarq (Or.inl ⟨by rfl, by intro w'; go_simp; with_reducible rfl⟩) (by simp only [Act.put, zar1, zar2, zar3, i64_w, i32_w]; rfl) ?_
           refine done_ (done_of HT_.out (by kernel_rfl)) ?_
           try go_wp2
           go_ret
           exact ⟨zE, zB⟩
      ·
       replace c21 := Bool.eq_false_iff.mpr c21; subst c21
       have H1 : (annuitantlaw36_BankBack.j2 kj4 a1_0 a1_1 l1_2) = some r := by rw [if_neg (show ¬ (false = true) by decide)] at H; exact H
       clear H; have H := H1; clear H1; have H' := Aside0.mk H; clear H
       go_wp2
       go_meet
       case rel => exact ⟨_, H', ⟨by have := HJ4.out; first | omega | exact Nat.le_refl _⟩, ⟨zK BK606⟩, ⟨zK BK607⟩, ⟨zB⟩⟩
     case rest =>
      clear HC17
      try clear c1
      try clear c2
      try clear p2
      try clear c5
      try clear c9
      try clear c10
      try clear c21
      try clear c50
      try clear c50b0
      try clear c50b1
      try clear c51
      try clear c51b0
      try clear c51b1
      try clear c94
      try clear c95
      try clear c96
      try clear c99
      try clear c100
      try clear c101
      try clear hcz102_0
      try clear hcz102_1
      try clear hcz102_2
      try clear hcz97_0
      try clear hcz97_1
      try clear hcz97_2
      try clear hfz102_0
      try clear hfz102_1
      try clear hfz102_2
      try clear hfz97_0
      try clear hfz97_1
      try clear hfz97_2
      obtain ⟨kq, HA, HJ16, BK606, BK607, HB⟩ := hcut
      cases kq with
      | zero => exact absurd HA.out (by simp [annuitantlaw36_BankBack.j2])
      | succ kj16 =>
       have H := HA.out; clear HA
       simp only [annuitantlaw36_BankBack.j2] at H
       replace H := Option.bind_eq_some_iff.mp H; obtain ⟨t640, A1040, H⟩ := H; replace H : (if t640 = true then ((bank_WriteAnswer.f kj16 a1_0 a1_1 l1_2).bind fun bt641 => ((bank_ReadAnswer.f kj16 bt641.1).bind fun bt643 => ((bank_Read.f kj16 bt641.1).bind fun bt650 => (if bt641.2 = 0 then (if bt643.2.2.2 = 0 then (if bt650.2.2.2 = 360 then ((annuitantlaw36_old.f kj16 a1_0 a1_1 l1_2).bind fun bt657 => ((annuitantlaw36_old.f kj16 bt643.1 bt643.2.1 bt643.2.2.1).bind fun bt662 => ((annuitantlaw36_sameAnswer.f kj16 bt657.1 bt657.2.1 bt657.2.2 bt662.1 bt662.2.1 bt662.2.2).bind fun t667 => (some t667)))) else (some false)) else (some false)) else (some false))))) else (some true)) = some r := H; have A104 := Aside0.mk A1040; clear A1040
       by_cases c105 : t640 = true
       ·
        subst c105
        have H1 : ((bank_WriteAnswer.f kj16 a1_0 a1_1 l1_2).bind fun bt641 => ((bank_ReadAnswer.f kj16 bt641.1).bind fun bt643 => ((bank_Read.f kj16 bt641.1).bind fun bt650 => (if bt641.2 = 0 then (if bt643.2.2.2 = 0 then (if bt650.2.2.2 = 360 then ((annuitantlaw36_old.f kj16 a1_0 a1_1 l1_2).bind fun bt657 => ((annuitantlaw36_old.f kj16 bt643.1 bt643.2.1 bt643.2.2.1).bind fun bt662 => ((annuitantlaw36_sameAnswer.f kj16 bt657.1 bt657.2.1 bt657.2.2 bt662.1 bt662.2.1 bt662.2.2).bind fun t667 => (some t667)))) else (some false)) else (some false)) else (some false))))) = some r := by rw [if_pos rfl] at H; exact H
        clear H; have H := H1; clear H1; replace H := Option.bind_eq_some_iff.mp H; obtain ⟨⟨t641, t642⟩, A1060, H⟩ := H; replace H : ((bank_ReadAnswer.f kj16 t641).bind fun bt643 => ((bank_Read.f kj16 t641).bind fun bt650 => (if t642 = 0 then (if bt643.2.2.2 = 0 then (if bt650.2.2.2 = 360 then ((annuitantlaw36_old.f kj16 a1_0 a1_1 l1_2).bind fun bt657 => ((annuitantlaw36_old.f kj16 bt643.1 bt643.2.1 bt643.2.2.1).bind fun bt662 => ((annuitantlaw36_sameAnswer.f kj16 bt657.1 bt657.2.1 bt657.2.2 bt662.1 bt662.2.1 bt662.2.2).bind fun t667 => (some t667)))) else (some false)) else (some false)) else (some false)))) = some r := H; have A106 := Aside0.mk A1060; clear A1060; replace H := Option.bind_eq_some_iff.mp H; obtain ⟨⟨t643, t644, t645, t648⟩, A1070, H⟩ := H; replace H : ((bank_Read.f kj16 t641).bind fun bt650 => (if t642 = 0 then (if t648 = 0 then (if bt650.2.2.2 = 360 then ((annuitantlaw36_old.f kj16 a1_0 a1_1 l1_2).bind fun bt657 => ((annuitantlaw36_old.f kj16 t643 t644 t645).bind fun bt662 => ((annuitantlaw36_sameAnswer.f kj16 bt657.1 bt657.2.1 bt657.2.2 bt662.1 bt662.2.1 bt662.2.2).bind fun t667 => (some t667)))) else (some false)) else (some false)) else (some false))) = some r := H; have A107 := Aside0.mk A1070; clear A1070; replace H := Option.bind_eq_some_iff.mp H; obtain ⟨⟨t650, t651, t652, t655⟩, A1080, H⟩ := H; replace H : (if t642 = 0 then (if t648 = 0 then (if t655 = 360 then ((annuitantlaw36_old.f kj16 a1_0 a1_1 l1_2).bind fun bt657 => ((annuitantlaw36_old.f kj16 t643 t644 t645).bind fun bt662 => ((annuitantlaw36_sameAnswer.f kj16 bt657.1 bt657.2.1 bt657.2.2 bt662.1 bt662.2.1 bt662.2.2).bind fun t667 => (some t667)))) else (some false)) else (some false)) else (some false)) = some r := H; have A108 := Aside0.mk A1080; clear A1080
        by_cases c109 : t642 = 0
        ·
         rw [if_pos c109] at H
         have c109b0 : (t642 == 0) = true := beq_iff_eq.mpr c109; have c109b1 : (t642 != 0) = false := bne_eq_false_iff_eq.mpr c109; clear c109
         by_cases c110 : t648 = 0
         ·
          rw [if_pos c110] at H
          have c110b0 : (t648 == 0) = true := beq_iff_eq.mpr c110; have c110b1 : (t648 != 0) = false := bne_eq_false_iff_eq.mpr c110; clear c110
          by_cases c111 : t655 = 360
          ·
           rw [if_pos c111] at H
           have c111b0 : (t655 == 360) = true := beq_iff_eq.mpr c111; have c111b1 : (t655 != 360) = false := bne_eq_false_iff_eq.mpr c111; clear c111; replace H := Option.bind_eq_some_iff.mp H; obtain ⟨⟨t657, t658, t659⟩, A1120, H⟩ := H; replace H : ((annuitantlaw36_old.f kj16 t643 t644 t645).bind fun bt662 => ((annuitantlaw36_sameAnswer.f kj16 t657 t658 t659 bt662.1 bt662.2.1 bt662.2.2).bind fun t667 => (some t667))) = some r := H; have A112 := Aside0.mk A1120; clear A1120; replace H := Option.bind_eq_some_iff.mp H; obtain ⟨⟨t662, t663, t664⟩, A1130, H⟩ := H; replace H : ((annuitantlaw36_sameAnswer.f kj16 t657 t658 t659 t662 t663 t664).bind fun t667 => (some t667)) = some r := H; have A113 := Aside0.mk A1130; clear A1130; replace H := Option.bind_eq_some_iff.mp H; obtain ⟨t667, A1140, H⟩ := H; replace H : (some t667) = some r := H; have A114 := Aside0.mk A1140; clear A1140; obtain rfl := Option.some.inj H; have hnb115 := NB607_606.out; have hnc115 := NB606_607.out; obtain ⟨hcz116_0, hcz116_1, hcz116_2⟩ := zC3 BK607; obtain ⟨hfz116_0, hfz116_1, hfz116_2⟩ := zZ3 BK607
           try go_wp2_with (first | ((with_reducible refine gate_callee (f := 28) rfl ?_); refine goesL_ (some 96) rfl rfl Tryz.func28 (by kernel_rfl) rfl #[.agg #[.int .i64 a1_0, .int .i64 a1_1, .slice A1_2 l1_2.length c1_2]] rfl (by (try simp only [List.map_toArray, List.map_cons, List.map_nil]); try rfl) ?_; (with_reducible refine (bank_Right.calls kj16 a1_0 a1_1 _ _ l1_2 true _ ?side1 ?side2 A104.out).mono ?_); (case side1 => repeat (first | exact (Kd.C_below HR1_2.out HB.out) | (with_reducible refine Kd.C_alloc ?_ _) | (with_reducible refine Kd.C_drewN ?_ _) | (with_reducible refine Kd.C_drew ?_))); (case side2 => exact HC1_2.out); rintro e w117 ⟨rfl, hb⟩; refine ⟨_, rfl, ?_⟩; replace BK606 := zKb BK606 hb; replace BK607 := zKb BK607 hb; replace HB := zBs hb; (try clear hb); (try clear hb2); (try clear hk); (try clear hi); obtain ⟨hcz118_0, hcz118_1, hcz118_2⟩ := zC3 BK607; obtain ⟨hfz118_0, hfz118_1, hfz118_2⟩ := zZ3 BK607) | ((with_reducible refine gate_callee (f := 29) rfl ?_); refine goesL_ (some 100) rfl rfl Tryz.func29 (by kernel_rfl) rfl #[.agg #[.int .i64 a1_0, .int .i64 a1_1, .slice A1_2 l1_2.length c1_2]] rfl (by (try simp only [List.map_toArray, List.map_cons, List.map_nil]); try rfl) ?_; (with_reducible refine (bank_WriteAnswer.calls kj16 a1_0 a1_1 _ _ l1_2 t641 t642 _ ?side1 ?side2 ?side3 A106.out).mono ?_); (case side1 => repeat (first | exact (Kd.C_below HR1_2.out HB.out) | (with_reducible refine Kd.C_alloc ?_ _) | (with_reducible refine Kd.C_drewN ?_ _) | (with_reducible refine Kd.C_drew ?_))); (case side2 => exact HC1_2.out); (case side3 => exact GG.below HG.out zB); rintro e w119 ⟨rfl, hb⟩; refine ⟨_, rfl, ?_⟩; replace BK606 := zKb BK606 hb; replace BK607 := zKb BK607 hb; replace HB := zBs hb; (try clear hb); (try clear hb2); (try clear hk); (try clear hi)) | ((with_reducible refine gate_callee (f := 25) rfl ?_); refine goesL_ (some 105) rfl rfl Tryz.func25 (by kernel_rfl) rfl #[.string t641] rfl (by (try simp only [List.map_toArray, List.map_cons, List.map_nil]); try rfl) ?_; (with_reducible refine (bank_ReadAnswer.calls kj16 t641 t643 t644 t645 t648 _ ?side1 A107.out).mono ?_); (case side1 => exact GG.below HG.out zB); rintro e w120 ⟨v646, rfl, ho0, hb⟩; refine ⟨_, rfl, ?_⟩; have HO647 := Aside0.mk (Kd.R_lower ho0 (below_size zB)); replace BK606 := zKb BK606 hb; replace BK607 := zKb BK607 hb; replace HB := zBs hb; (try clear hb); (try clear hb2); (try clear hk); (try clear hi); (try clear ho0)) | ((with_reducible refine gate_dst (N := 16) rfl ?_); (try (refine gate_guard (by rfl) ?_; dsimp only)); refine box_event ?hg (N := 16) ?hd (cs := #[.int .i64 0, .int .i64 0, .slice none 0 0]) (t := 30) ?hr ?_; (case hd => rfl); (case hg => rfl); (case hr => first | (go_simp; done) | (go_simp; rfl)); intro gb649 hg w121 hbox hb; replace HO647 := Aside0.mk (Kd.R_below (zR HO647) hb); have BK649 := Aside0.mk (hbox); have GW649 := zG (w := w) hg; have GE649 := zG (w := w) hg; replace HB := zBs hb; have NB606_649 := zN hg (zK BK606); have NB649_606 := zM hg (zK BK606); replace BK606 := zKb BK606 hb; have NB607_649 := zN hg (zK BK607); have NB649_607 := zM hg (zK BK607); replace BK607 := zKb BK607 hb; clear hb hbox hg; have hnb122 := NB649_606.out; have hnc122 := NB606_649.out; have hnb123 := NB649_607.out; have hnc123 := NB607_649.out; obtain ⟨hcz124_0, hcz124_1, hcz124_2⟩ := zC3 BK649; obtain ⟨hfz124_0, hfz124_1, hfz124_2⟩ := zZ3 BK649; obtain ⟨Ao125, co125, eo125⟩ := Kd.R_slice HO647.out; subst eo125) | ((with_reducible refine gate_callee (f := 24) rfl ?_); refine goesL_ (some 110) rfl rfl Tryz.func24 (by kernel_rfl) rfl #[.string t641] rfl (by (try simp only [List.map_toArray, List.map_cons, List.map_nil]); try rfl) ?_; (with_reducible refine (bank_Read.calls kj16 t641 t650 t651 t652 t655 _ ?side1 A108.out).mono ?_); (case side1 => exact GG.below HG.out zB); rintro e w126 ⟨v653, rfl, ho0, hb⟩; refine ⟨_, rfl, ?_⟩; replace HO647 := Aside0.mk (Kd.R_below (by (with_reducible repeat (first | apply Kd.R_alloc | apply Kd.R_drewN | apply Kd.R_drew)); exact (Kd.R_mono (Kd.R_far (p := ⟨gb649, 2, none⟩) (Kd.R_far (p := ⟨gb649, 1, none⟩) (Kd.R_far (p := ⟨gb649, 0, none⟩) (Kd.R_types HO647.out BK649.out (by decide)) (fun _ hk => hk.2) (.int .i64 t643)) (fun _ hk => hk.2) (.int .i64 t644)) (fun _ hk => hk.2) (.slice Ao125 t645.length co125)) (fun _ h_ => h_.1))) hb); have HO654 := Aside0.mk (Kd.R_lower ho0 (below_size zB)); replace BK606 := Aside0.mk (blk_below (zF BK606) hb); replace BK607 := Aside0.mk (blk_below (zF BK607) hb); replace BK649 := Aside0.mk (blk_below (g := gb649) (o := .cells #[.int .i64 t643, .int .i64 t644, .slice Ao125 t645.length co125] 30 (0, 0)) (by (with_reducible repeat (first | apply blk_drewN | apply blk_drew | apply blk_alloc)); refine blk_put (cs := #[.int .i64 t643, .int .i64 t644, .slice none 0 0]) ?_ 2 _ rfl; (with_reducible repeat (first | apply blk_drewN | apply blk_drew | apply blk_alloc)); refine blk_put (cs := #[.int .i64 t643, .int .i64 0, .slice none 0 0]) ?_ 1 _ rfl; (with_reducible repeat (first | apply blk_drewN | apply blk_drew | apply blk_alloc)); refine blk_put (cs := #[.int .i64 0, .int .i64 0, .slice none 0 0]) ?_ 0 _ rfl; (with_reducible repeat (first | apply blk_drewN | apply blk_drew | apply blk_alloc)); exact BK649.out) hb); replace HB := zBs hb; (try clear hb); (try clear hb2); (try clear hk); (try clear hi); (try clear ho0)) | ((with_reducible refine gate_dst (N := 18) rfl ?_); (try (refine gate_guard (by rfl) ?_; dsimp only)); refine box_event ?hg (N := 18) ?hd (cs := #[.int .i64 0, .int .i64 0, .slice none 0 0]) (t := 27) ?hr ?_; (case hd => rfl); (case hg => rfl); (case hr => first | (go_simp; done) | (go_simp; rfl)); intro gb656 hg w127 hbox hb; replace HO647 := Aside0.mk (Kd.R_below (zR HO647) hb); replace HO654 := Aside0.mk (Kd.R_below (zR HO654) hb); have BK656 := Aside0.mk (hbox); have GW656 := zG (w := w) hg; have GE656 := zG (w := w) hg; replace HB := zBs hb; have NB606_656 := zN hg (zK BK606); have NB656_606 := zM hg (zK BK606); replace BK606 := zKb BK606 hb; have NB607_656 := zN hg (zK BK607); have NB656_607 := zM hg (zK BK607); replace BK607 := zKb BK607 hb; have NB649_656 := zN hg (zK BK649); have NB656_649 := zM hg (zK BK649); replace BK649 := zKb BK649 hb; clear hb hbox hg; have hnb128 := NB656_606.out; have hnc128 := NB606_656.out; have hnb129 := NB656_607.out; have hnc129 := NB607_656.out; have hnb130 := NB656_649.out; have hnc130 := NB649_656.out; obtain ⟨hcz131_0, hcz131_1, hcz131_2⟩ := zC3 BK656; obtain ⟨hfz131_0, hfz131_1, hfz131_2⟩ := zZ3 BK656; obtain ⟨Ao132, co132, eo132⟩ := Kd.R_slice HO654.out; subst eo132))
           have n0_ : Aside0 (Kd.R k49 49 (((w127.setCell ⟨gb656, 0, none⟩ (.int .i64 t650)).setCell ⟨gb656, 1, none⟩ (.int .i64 t651)).setCell ⟨gb656, 2, none⟩ (.slice Ao132 t652.length co132)) w.heap.size (fun _ => True) (.slice Ao125 t645.length co125) t645) := ⟨by (with_reducible repeat (first | apply Kd.R_alloc | apply Kd.R_drewN | apply Kd.R_drew)); exact Kd.R_mono (Kd.R_far (p := ⟨gb656, 2, none⟩) (Kd.R_far (p := ⟨gb656, 1, none⟩) (Kd.R_far (p := ⟨gb656, 0, none⟩) (Kd.R_types HO647.out BK656.out (by decide)) (fun _ hk => hk.2) (.int .i64 t650)) (fun _ hk => hk.2) (.int .i64 t651)) (fun _ hk => hk.2) (.slice Ao132 t652.length co132)) (fun _ hk => trivial)⟩
           have n1_ : Aside0 (Kd.R k47 47 (((w127.setCell ⟨gb656, 0, none⟩ (.int .i64 t650)).setCell ⟨gb656, 1, none⟩ (.int .i64 t651)).setCell ⟨gb656, 2, none⟩ (.slice Ao132 t652.length co132)) w.heap.size (fun _ => True) (.slice Ao132 t652.length co132) t652) := ⟨by (with_reducible repeat (first | apply Kd.R_alloc | apply Kd.R_drewN | apply Kd.R_drew)); exact Kd.R_mono (Kd.R_far (p := ⟨gb656, 2, none⟩) (Kd.R_far (p := ⟨gb656, 1, none⟩) (Kd.R_far (p := ⟨gb656, 0, none⟩) (Kd.R_types HO654.out BK656.out (by decide)) (fun _ hk => hk.2) (.int .i64 t650)) (fun _ hk => hk.2) (.int .i64 t651)) (fun _ hk => hk.2) (.slice Ao132 t652.length co132)) (fun _ hk => trivial)⟩
           have n2_ : Aside0 ((((w127.setCell ⟨gb656, 0, none⟩ (.int .i64 t650)).setCell ⟨gb656, 1, none⟩ (.int .i64 t651)).setCell ⟨gb656, 2, none⟩ (.slice Ao132 t652.length co132)).heap[gb606]? = some (.cells #[.int .i64 a0_0, .int .i64 a0_1, .slice A0_2 l0_2.length c0_2] 27 (0, 0))) := ⟨zF BK606⟩
           have n3_ : Aside0 ((((w127.setCell ⟨gb656, 0, none⟩ (.int .i64 t650)).setCell ⟨gb656, 1, none⟩ (.int .i64 t651)).setCell ⟨gb656, 2, none⟩ (.slice Ao132 t652.length co132)).heap[gb607]? = some (.cells #[.int .i64 a1_0, .int .i64 a1_1, .slice A1_2 l1_2.length c1_2] 30 (0, 0))) := ⟨zF BK607⟩
           have n4_ : Aside0 ((((w127.setCell ⟨gb656, 0, none⟩ (.int .i64 t650)).setCell ⟨gb656, 1, none⟩ (.int .i64 t651)).setCell ⟨gb656, 2, none⟩ (.slice Ao132 t652.length co132)).heap[gb649]? = some (.cells #[.int .i64 t643, .int .i64 t644, .slice Ao125 t645.length co125] 30 (0, 0))) := ⟨zF BK649⟩
           have n5_ : Aside0 ((((w127.setCell ⟨gb656, 0, none⟩ (.int .i64 t650)).setCell ⟨gb656, 1, none⟩ (.int .i64 t651)).setCell ⟨gb656, 2, none⟩ (.slice Ao132 t652.length co132)).heap[gb656]? = some (.cells #[.int .i64 t650, .int .i64 t651, .slice Ao132 t652.length co132] 27 (0, 0))) := ⟨by (with_reducible repeat (first | apply blk_drewN | apply blk_drew | apply blk_alloc)); refine blk_put (cs := #[.int .i64 t650, .int .i64 t651, .slice none 0 0]) ?_ 2 _ rfl; (with_reducible repeat (first | apply blk_drewN | apply blk_drew | apply blk_alloc)); refine blk_put (cs := #[.int .i64 t650, .int .i64 0, .slice none 0 0]) ?_ 1 _ rfl; (with_reducible repeat (first | apply blk_drewN | apply blk_drew | apply blk_alloc)); refine blk_put (cs := #[.int .i64 0, .int .i64 0, .slice none 0 0]) ?_ 0 _ rfl; (with_reducible repeat (first | apply blk_drewN | apply blk_drew | apply blk_alloc)); exact BK656.out⟩
           have n6_ : Aside0 (Below w.heap.size w (((w127.setCell ⟨gb656, 0, none⟩ (.int .i64 t650)).setCell ⟨gb656, 1, none⟩ (.int .i64 t651)).setCell ⟨gb656, 2, none⟩ (.slice Ao132 t652.length co132))) := ⟨zB⟩
           (try clear HO647)
           (try clear HO654)
           (try clear BK606)
           (try clear BK607)
           (try clear BK649)
           (try clear BK656)
           (try clear HB)
           generalize (((w127.setCell ⟨gb656, 0, none⟩ (.int .i64 t650)).setCell ⟨gb656, 1, none⟩ (.int .i64 t651)).setCell ⟨gb656, 2, none⟩ (.slice Ao132 t652.length co132)) = w133 at n0_ n1_ n2_ n3_ n4_ n5_ n6_ ⊢
           have HO647 := n0_; have HO654 := n1_; have BK606 := n2_; have BK607 := n3_; have BK649 := n4_; have BK656 := n5_; have HB := n6_; clear n0_ n1_ n2_ n3_ n4_ n5_ n6_; replace HO647 := Aside0.mk (Kd.R_drew HO647.out); replace HO654 := Aside0.mk (Kd.R_drew HO654.out); replace BK606 := Aside0.mk (blk_drew BK606.out); replace BK607 := Aside0.mk (blk_drew BK607.out); replace BK649 := Aside0.mk (blk_drew BK649.out); replace BK656 := Aside0.mk (blk_drew BK656.out); replace HB := Aside0.mk (below_drew1 HB.out); 
           refine start_ (n := 18) (S := fun w' => w'.cell? ⟨gb607, 0, none⟩ = some (.int .i64 a1_0) ∧ w'.cell? ⟨gb607, 1, none⟩ = some (.int .i64 a1_1) ∧ w'.cell? ⟨gb607, 2, none⟩ = some (.slice A1_2 l1_2.length c1_2) ∧ w'.cell? ⟨gb649, 0, none⟩ = some (.int .i64 t643) ∧ w'.cell? ⟨gb649, 1, none⟩ = some (.int .i64 t644) ∧ w'.cell? ⟨gb649, 2, none⟩ = some (.slice Ao125 t645.length co125)) (ds := []) zarz28 (by kernel_rfl) rfl rfl ⟨(blk_cell BK607.out 0).trans rfl, (blk_cell BK607.out 1).trans rfl, (blk_cell BK607.out 2).trans rfl, (blk_cell BK649.out 0).trans rfl, (blk_cell BK649.out 1).trans rfl, (blk_cell BK649.out 2).trans rfl⟩ (fun hHeld => ?_); refine with_tabW annuitantlaw36_BankBack.tab21 annuitantlaw36_BankBack.bits21 (fun HT_ HW_ => ?_)
           generalize w133.drew = w134 at HO647 HO654 BK606 BK607 BK649 BK656 HB hHeld ⊢
           refine zarp 0 (some 113) zarz29 rfl rfl (any_of HT_.out (by kernel_rfl)) zarq (Or.inl ⟨by rfl, by intro w'; go_simp; with_reducible rfl⟩) (by simp only [Act.put, zar1, zar2, zar3, i64_w, i32_w]; rfl) ?_
           refine zarp 1 (some 114) zarz30 rfl rfl (any_of HT_.out (by kernel_rfl)) zarq (Or.inl ⟨by rfl, by intro w'; go_simp; with_reducible rfl⟩) (by simp only [Act.put, zar1, zar2, zar3, i64_w, i32_w]; rfl) ?_
           refine zarp 2 (some 115) zarz31 rfl rfl (any_of HT_.out (by kernel_rfl)) zarq (Or.inl ⟨by rfl, by intro w'; go_simp; with_reducible rfl⟩) (by simp only [Act.put, zar1, zar2, zar3, i64_w, i32_w]; rfl) ?_
           refine zarp 3 (some 116) zarz32 rfl rfl (any_of HT_.out (by kernel_rfl)) zarq (Or.inl ⟨by rfl, by intro w'; go_simp; with_reducible rfl⟩) (by simp only [Act.put, zar1, zar2, zar3, i64_w, i32_w]; rfl) ?_
           refine zarp 4 (some 117) zarz33 rfl rfl (any_of HT_.out (by kernel_rfl)) zarq (Or.inl ⟨by rfl, by intro w'; go_simp; with_reducible rfl⟩) (by simp only [Act.put, zar1, zar2, zar3, i64_w, i32_w]; rfl) ?_
           refine zarp 5 (some 118) zarz34 rfl rfl (any_of HT_.out (by kernel_rfl)) zarq (Or.inl ⟨by rfl, by intro w'; go_simp; with_reducible rfl⟩) (by simp only [Act.put, zar1, zar2, zar3, i64_w, i32_w]; rfl) ?_
           refine zarp 6 (some 119) zarz35 rfl rfl (any_of HT_.out (by kernel_rfl)) zarq (Or.inl ⟨by rfl, by intro w'; go_simp; with_reducible rfl⟩) (by simp only [Act.put, zar1, zar2, zar3, i64_w, i32_w]; rfl) ?_
           refine zarp 7 (some 120) zarz36 rfl rfl (any_of HT_.out (by kernel_rfl)) zarq (Or.inl ⟨by rfl, by intro w'; go_simp; with_reducible rfl⟩) (by simp only [Act.put, zar1, zar2, zar3, i64_w, i32_w]; rfl) ?_
           refine zarp 8 (some 121) zarz37 rfl rfl (any_of HT_.out (by kernel_rfl)) zarq (Or.inl ⟨by rfl, by intro w'; go_simp; with_reducible rfl⟩) (by simp only [Act.put, zar1, zar2, zar3, i64_w, i32_w]; rfl) ?_
           refine zarp 9 (some 122) zarz38 rfl rfl (any_of HT_.out (by kernel_rfl)) zarq (Or.inl ⟨by rfl, by intro w'; go_simp; with_reducible rfl⟩) (by simp only [Act.put, zar1, zar2, zar3, i64_w, i32_w]; rfl) ?_
           refine zarp 10 (some 123) zarz39 rfl rfl (any_of HT_.out (by kernel_rfl)) zarq (Or.inl ⟨by rfl, by intro w'; go_simp; with_reducible rfl⟩) (by simp only [Act.put, zar1, zar2, zar3, i64_w, i32_w]; rfl) ?_
           refine take_ (i := 11) (N := some 124) (v := ?_) (a' := ?_) zarz40 rfl rfl (take_ofW HT_.out HW_.out (by kernel_rfl)) (fun _ _ _ h => h) (Or.inl ⟨by rfl, ?_⟩) hHeld ?_ ?_
           rotate_left
           ·
            rintro w' ⟨s0, s1, s2, s3, s4, s5⟩
            go_simp
            with_reducible rfl
           rotate_left
           · simp only [Act.put, zar1, zar2, zar3, i64_w, i32_w]; rfl
           refine take_ (i := 13) (N := some 126) (v := ?_) (a' := ?_) zarz41 rfl rfl (take_ofW HT_.out HW_.out (by kernel_rfl)) (fun _ _ _ h => h) (Or.inl ⟨by rfl, ?_⟩) hHeld ?_ ?_
           rotate_left
           ·
            rintro w' ⟨s0, s1, s2, s3, s4, s5⟩
            go_simp
            with_reducible rfl
           rotate_left
           · simp only [Act.put, zar1, zar2, zar3, i64_w, i32_w]; rfl
           refine one_ (i := 12) (N := some 125) zarz42 rfl rfl (one_of HT_.out (by kernel_rfl)) (by decide) (fun K hK => ?_)
           refine goes_ Tryz.func16 (by kernel_rfl) rfl #[.agg #[.int .i64 a1_0, .int .i64 a1_1, .slice A1_2 l1_2.length c1_2]] (by rfl) rfl rfl (by (try simp only [List.map_toArray, List.map_cons, List.map_nil]); try rfl) ?_
           with_reducible refine (annuitantlaw36_old.calls kj16 a1_0 a1_1 _ _ l1_2 t657 t658 t659 _ ?side1 ?side2 A112.out).mono ?_
           (case side1 => repeat (first | exact (Kd.C_below HR1_2.out HB.out) | (with_reducible refine Kd.C_alloc ?_ _) | (with_reducible refine Kd.C_drewN ?_ _) | (with_reducible refine Kd.C_drew ?_)))
           (case side2 => exact HC1_2.out)
           rintro e w135 ⟨v660, rfl, ho0, hb⟩
           refine ⟨_, rfl, ?_⟩
           have n0_ := Aside0.mk (Kd.R_below (zR HO647) hb)
           have n1_ := Aside0.mk (Kd.R_below (zR HO654) hb)
           have n2_ := Aside0.mk (Kd.R_lower ho0 (below_size zB)); have n3_ := zKb BK606 hb
           have n4_ := zKb BK607 hb
           have n5_ := zKb BK649 hb
           have n6_ := zKb BK656 hb
           have n7_ := zBs hb; clear HO647; clear HO654; clear BK606; clear BK607; clear BK649; clear BK656; clear HB; have HO647 := n0_; have HO654 := n1_; have HO661 := n2_; have BK606 := n3_; have BK607 := n4_; have BK649 := n5_; have BK656 := n6_; have HB := n7_; clear n0_ n1_ n2_ n3_ n4_ n5_ n6_ n7_
           (try clear hb)
           (try clear hb2)
           (try clear hk)
           (try clear hi)
           (try clear ho0)
           refine hK.out _ _ ⟨(blk_cell BK607.out 0).trans rfl, (blk_cell BK607.out 1).trans rfl, (blk_cell BK607.out 2).trans rfl, (blk_cell BK649.out 0).trans rfl, (blk_cell BK649.out 1).trans rfl, (blk_cell BK649.out 2).trans rfl⟩ (fun hHeld => ?_)
           clear hK K
           refine norm_ (a' := ?_) ?_ ?_
           rotate_left
           ·
            show Act.put _ (some 125) _ = _
            simp only [Act.put, zar1, zar2, zar3, i64_w, i32_w]
            rfl
           refine one_ (i := 14) (N := some 127) zarz43 rfl rfl (one_of HT_.out (by kernel_rfl)) (by decide) (fun K hK => ?_)
           refine goes_ Tryz.func16 (by kernel_rfl) rfl #[.agg #[.int .i64 t643, .int .i64 t644, .slice Ao125 t645.length co125]] (by rfl) rfl rfl (by (try simp only [List.map_toArray, List.map_cons, List.map_nil]); try rfl) ?_
           with_reducible refine (annuitantlaw36_old.calls kj16 t643 t644 _ _ t645 t662 t663 t664 _ ?side1 ?side2 A113.out).mono ?_
           (case side1 => repeat (first | exact (Kd.R_reads' HO647.out).2.2 | (with_reducible refine Kd.C_alloc ?_ _) | (with_reducible refine Kd.C_drewN ?_ _) | (with_reducible refine Kd.C_drew ?_)))
           (case side2 => exact (Kd.R_reads' HO647.out).2.1)
           rintro e w136 ⟨v665, rfl, ho0, hb⟩
           refine ⟨_, rfl, ?_⟩
           have n0_ := Aside0.mk (Kd.R_below (zR HO647) hb)
           have n1_ := Aside0.mk (Kd.R_below (zR HO654) hb)
           have n2_ := Aside0.mk (Kd.R_elder' (zR HO661) (Kd.R_base ho0) hb)
           have n3_ := Aside0.mk (Kd.R_lower (Kd.R_new' ho0 (Kd.R_lt (zR HO661))) (below_size zB))
           have n4_ := zKb BK606 hb
           have n5_ := zKb BK607 hb
           have n6_ := zKb BK649 hb
           have n7_ := zKb BK656 hb
           have n8_ := zBs hb; clear HO647; clear HO654; clear HO661; clear BK606; clear BK607; clear BK649; clear BK656; clear HB; have HO647 := n0_; have HO654 := n1_; have HO661 := n2_; have HO666 := n3_; have BK606 := n4_; have BK607 := n5_; have BK649 := n6_; have BK656 := n7_; have HB := n8_; clear n0_ n1_ n2_ n3_ n4_ n5_ n6_ n7_ n8_
           (try clear hb)
           (try clear hb2)
           (try clear hk)
           (try clear hi)
           (try clear ho0)
           obtain ⟨Ao137, co137, eo137⟩ := Kd.R_slice HO661.out
           (first | subst eo137 | (injection eo137 with f1_ f2_ f3_; have f4_ := f1_.symm; have f5_ := f3_.symm; clear f1_ f2_ f3_; subst f4_; subst f5_))
           obtain ⟨Ao138, co138, eo138⟩ := Kd.R_slice HO666.out
           (first | subst eo138 | (injection eo138 with f1_ f2_ f3_; have f4_ := f1_.symm; have f5_ := f3_.symm; clear f1_ f2_ f3_; subst f4_; subst f5_))
           refine hK.out _ _ ⟨(blk_cell BK607.out 0).trans rfl, (blk_cell BK607.out 1).trans rfl, (blk_cell BK607.out 2).trans rfl, (blk_cell BK649.out 0).trans rfl, (blk_cell BK649.out 1).trans rfl, (blk_cell BK649.out 2).trans rfl⟩ (fun hHeld => ?_)
           clear hK K
           refine norm_ (a' := ?_) ?_ ?_
           rotate_left
           ·
            show Act.put _ (some 127) _ = _
            simp only [Act.put, zar1, zar2, zar3, i64_w, i32_w]
            rfl
           refine one_ (i := 15) (N := some 128) zarz44 rfl rfl (one_of HT_.out (by kernel_rfl)) (by decide) (fun K hK => ?_)
           refine goes_ Tryz.func30 (by kernel_rfl) rfl #[.agg #[.int .i64 t657, .int .i64 t658, .slice Ao137 t659.length co137], .agg #[.int .i64 t662, .int .i64 t663, .slice Ao138 t664.length co138]] (by rfl) rfl rfl (by (try simp only [List.map_toArray, List.map_cons, List.map_nil]); try rfl) ?_
           with_reducible refine (annuitantlaw36_sameAnswer.calls kj16 t657 t658 _ _ t659 t662 t663 _ _ t664 t667 _ ?side1 ?side2 ?side3 ?side4 A114.out).mono ?_
           (case side1 => repeat (first | exact (Kd.R_reads' HO661.out).2.2 | (with_reducible refine Kd.C_alloc ?_ _) | (with_reducible refine Kd.C_drewN ?_ _) | (with_reducible refine Kd.C_drew ?_)))
           (case side2 => exact (Kd.R_reads' HO661.out).2.1)
           (case side3 => repeat (first | exact (Kd.R_reads' HO666.out).2.2 | (with_reducible refine Kd.C_alloc ?_ _) | (with_reducible refine Kd.C_drewN ?_ _) | (with_reducible refine Kd.C_drew ?_)))
           (case side4 => exact (Kd.R_reads' HO666.out).2.1)
           rintro e w139 ⟨rfl, hb⟩
           refine ⟨_, rfl, ?_⟩
           have n0_ := Aside0.mk (Kd.R_below (zR HO647) hb)
           have n1_ := Aside0.mk (Kd.R_below (zR HO654) hb)
           have n2_ := Aside0.mk (Kd.R_below (zR HO661) hb)
           have n3_ := Aside0.mk (Kd.R_below (zR HO666) hb)
           have n4_ := zKb BK606 hb
           have n5_ := zKb BK607 hb
           have n6_ := zKb BK649 hb
           have n7_ := zKb BK656 hb
           have n8_ := zBs hb; clear HO647; clear HO654; clear HO661; clear HO666; clear BK606; clear BK607; clear BK649; clear BK656; clear HB; have HO647 := n0_; have HO654 := n1_; have HO661 := n2_; have HO666 := n3_; have BK606 := n4_; have BK607 := n5_; have BK649 := n6_; have BK656 := n7_; have HB := n8_; clear n0_ n1_ n2_ n3_ n4_ n5_ n6_ n7_ n8_
           (try clear hb)
           (try clear hb2)
           (try clear hk)
           (try clear hi)
           refine hK.out _ _ ⟨(blk_cell BK607.out 0).trans rfl, (blk_cell BK607.out 1).trans rfl, (blk_cell BK607.out 2).trans rfl, (blk_cell BK649.out 0).trans rfl, (blk_cell BK649.out 1).trans rfl, (blk_cell BK649.out 2).trans rfl⟩ (fun hHeld => ?_)
           clear hK K
           refine norm_ (a' := ?_) ?_ ?_
           rotate_left
           ·
            show Act.put _ (some 128) _ = _
            simp only [Act.put, zar1, zar2, zar3, i64_w, i32_w]
            rfl
           refine zarp 16 (some 129) zarz45 rfl rfl (any_of HT_.out (by kernel_rfl)) zarq (Or.inl ⟨by rfl, by intro w'; go_simp; with_reducible rfl⟩) (by simp only [Act.put, zar1, zar2, zar3, i64_w, i32_w]; rfl) ?_
           refine zarp 17 (some 4) zarz46 rfl rfl (any_of HT_.out (by kernel_rfl)) zarq (Or.inl ⟨by rfl, by intro w'; go_simp; with_reducible rfl⟩) (by simp only [Act.put, zar1, zar2, zar3, i64_w, i32_w]; rfl) ?_
           refine done_ (done_of HT_.out (by kernel_rfl)) ?_
           try go_wp2
           go_ret
           exact ⟨zE, zB⟩
          ·
           rw [if_neg c111] at H
           have c111b0 : (t655 == 360) = false := beq_eq_false_iff_ne.mpr c111; have c111b1 : (t655 != 360) = true := bne_iff_ne.mpr c111; obtain rfl := Option.some.inj H; have hnb140 := NB607_606.out; have hnc140 := NB606_607.out; obtain ⟨hcz141_0, hcz141_1, hcz141_2⟩ := zC3 BK607; obtain ⟨hfz141_0, hfz141_1, hfz141_2⟩ := zZ3 BK607
           try go_wp2_with (first | ((with_reducible refine gate_callee (f := 28) rfl ?_); refine goesL_ (some 96) rfl rfl Tryz.func28 (by kernel_rfl) rfl #[.agg #[.int .i64 a1_0, .int .i64 a1_1, .slice A1_2 l1_2.length c1_2]] rfl (by (try simp only [List.map_toArray, List.map_cons, List.map_nil]); try rfl) ?_; (with_reducible refine (bank_Right.calls kj16 a1_0 a1_1 _ _ l1_2 true _ ?side1 ?side2 A104.out).mono ?_); (case side1 => repeat (first | exact (Kd.C_below HR1_2.out HB.out) | (with_reducible refine Kd.C_alloc ?_ _) | (with_reducible refine Kd.C_drewN ?_ _) | (with_reducible refine Kd.C_drew ?_))); (case side2 => exact HC1_2.out); rintro e w142 ⟨rfl, hb⟩; refine ⟨_, rfl, ?_⟩; replace BK606 := zKb BK606 hb; replace BK607 := zKb BK607 hb; replace HB := zBs hb; (try clear hb); (try clear hb2); (try clear hk); (try clear hi); obtain ⟨hcz143_0, hcz143_1, hcz143_2⟩ := zC3 BK607; obtain ⟨hfz143_0, hfz143_1, hfz143_2⟩ := zZ3 BK607) | ((with_reducible refine gate_callee (f := 29) rfl ?_); refine goesL_ (some 100) rfl rfl Tryz.func29 (by kernel_rfl) rfl #[.agg #[.int .i64 a1_0, .int .i64 a1_1, .slice A1_2 l1_2.length c1_2]] rfl (by (try simp only [List.map_toArray, List.map_cons, List.map_nil]); try rfl) ?_; (with_reducible refine (bank_WriteAnswer.calls kj16 a1_0 a1_1 _ _ l1_2 t641 t642 _ ?side1 ?side2 ?side3 A106.out).mono ?_); (case side1 => repeat (first | exact (Kd.C_below HR1_2.out HB.out) | (with_reducible refine Kd.C_alloc ?_ _) | (with_reducible refine Kd.C_drewN ?_ _) | (with_reducible refine Kd.C_drew ?_))); (case side2 => exact HC1_2.out); (case side3 => exact GG.below HG.out zB); rintro e w144 ⟨rfl, hb⟩; refine ⟨_, rfl, ?_⟩; replace BK606 := zKb BK606 hb; replace BK607 := zKb BK607 hb; replace HB := zBs hb; (try clear hb); (try clear hb2); (try clear hk); (try clear hi)) | ((with_reducible refine gate_callee (f := 25) rfl ?_); refine goesL_ (some 105) rfl rfl Tryz.func25 (by kernel_rfl) rfl #[.string t641] rfl (by (try simp only [List.map_toArray, List.map_cons, List.map_nil]); try rfl) ?_; (with_reducible refine (bank_ReadAnswer.calls kj16 t641 t643 t644 t645 t648 _ ?side1 A107.out).mono ?_); (case side1 => exact GG.below HG.out zB); rintro e w145 ⟨v646, rfl, ho0, hb⟩; refine ⟨_, rfl, ?_⟩; have HO647 := Aside0.mk (Kd.R_lower ho0 (below_size zB)); replace BK606 := zKb BK606 hb; replace BK607 := zKb BK607 hb; replace HB := zBs hb; (try clear hb); (try clear hb2); (try clear hk); (try clear hi); (try clear ho0)) | ((with_reducible refine gate_dst (N := 16) rfl ?_); (try (refine gate_guard (by rfl) ?_; dsimp only)); refine box_event ?hg (N := 16) ?hd (cs := #[.int .i64 0, .int .i64 0, .slice none 0 0]) (t := 30) ?hr ?_; (case hd => rfl); (case hg => rfl); (case hr => first | (go_simp; done) | (go_simp; rfl)); intro gb649 hg w146 hbox hb; replace HO647 := Aside0.mk (Kd.R_below (zR HO647) hb); have BK649 := Aside0.mk (hbox); have GW649 := zG (w := w) hg; have GE649 := zG (w := w) hg; replace HB := zBs hb; have NB606_649 := zN hg (zK BK606); have NB649_606 := zM hg (zK BK606); replace BK606 := zKb BK606 hb; have NB607_649 := zN hg (zK BK607); have NB649_607 := zM hg (zK BK607); replace BK607 := zKb BK607 hb; clear hb hbox hg; have hnb147 := NB649_606.out; have hnc147 := NB606_649.out; have hnb148 := NB649_607.out; have hnc148 := NB607_649.out; obtain ⟨hcz149_0, hcz149_1, hcz149_2⟩ := zC3 BK649; obtain ⟨hfz149_0, hfz149_1, hfz149_2⟩ := zZ3 BK649; obtain ⟨Ao150, co150, eo150⟩ := Kd.R_slice HO647.out; subst eo150) | ((with_reducible refine gate_callee (f := 24) rfl ?_); refine goesL_ (some 110) rfl rfl Tryz.func24 (by kernel_rfl) rfl #[.string t641] rfl (by (try simp only [List.map_toArray, List.map_cons, List.map_nil]); try rfl) ?_; (with_reducible refine (bank_Read.calls kj16 t641 t650 t651 t652 t655 _ ?side1 A108.out).mono ?_); (case side1 => exact GG.below HG.out zB); rintro e w151 ⟨v653, rfl, ho0, hb⟩; refine ⟨_, rfl, ?_⟩; replace HO647 := Aside0.mk (Kd.R_below (by (with_reducible repeat (first | apply Kd.R_alloc | apply Kd.R_drewN | apply Kd.R_drew)); exact (Kd.R_mono (Kd.R_far (p := ⟨gb649, 2, none⟩) (Kd.R_far (p := ⟨gb649, 1, none⟩) (Kd.R_far (p := ⟨gb649, 0, none⟩) (Kd.R_types HO647.out BK649.out (by decide)) (fun _ hk => hk.2) (.int .i64 t643)) (fun _ hk => hk.2) (.int .i64 t644)) (fun _ hk => hk.2) (.slice Ao150 t645.length co150)) (fun _ h_ => h_.1))) hb); have HO654 := Aside0.mk (Kd.R_lower ho0 (below_size zB)); replace BK606 := Aside0.mk (blk_below (zF BK606) hb); replace BK607 := Aside0.mk (blk_below (zF BK607) hb); replace BK649 := Aside0.mk (blk_below (g := gb649) (o := .cells #[.int .i64 t643, .int .i64 t644, .slice Ao150 t645.length co150] 30 (0, 0)) (by (with_reducible repeat (first | apply blk_drewN | apply blk_drew | apply blk_alloc)); refine blk_put (cs := #[.int .i64 t643, .int .i64 t644, .slice none 0 0]) ?_ 2 _ rfl; (with_reducible repeat (first | apply blk_drewN | apply blk_drew | apply blk_alloc)); refine blk_put (cs := #[.int .i64 t643, .int .i64 0, .slice none 0 0]) ?_ 1 _ rfl; (with_reducible repeat (first | apply blk_drewN | apply blk_drew | apply blk_alloc)); refine blk_put (cs := #[.int .i64 0, .int .i64 0, .slice none 0 0]) ?_ 0 _ rfl; (with_reducible repeat (first | apply blk_drewN | apply blk_drew | apply blk_alloc)); exact BK649.out) hb); replace HB := zBs hb; (try clear hb); (try clear hb2); (try clear hk); (try clear hi); (try clear ho0)) | ((with_reducible refine gate_dst (N := 18) rfl ?_); (try (refine gate_guard (by rfl) ?_; dsimp only)); refine box_event ?hg (N := 18) ?hd (cs := #[.int .i64 0, .int .i64 0, .slice none 0 0]) (t := 27) ?hr ?_; (case hd => rfl); (case hg => rfl); (case hr => first | (go_simp; done) | (go_simp; rfl)); intro gb656 hg w152 hbox hb; replace HO647 := Aside0.mk (Kd.R_below (zR HO647) hb); replace HO654 := Aside0.mk (Kd.R_below (zR HO654) hb); have BK656 := Aside0.mk (hbox); have GW656 := zG (w := w) hg; have GE656 := zG (w := w) hg; replace HB := zBs hb; have NB606_656 := zN hg (zK BK606); have NB656_606 := zM hg (zK BK606); replace BK606 := zKb BK606 hb; have NB607_656 := zN hg (zK BK607); have NB656_607 := zM hg (zK BK607); replace BK607 := zKb BK607 hb; have NB649_656 := zN hg (zK BK649); have NB656_649 := zM hg (zK BK649); replace BK649 := zKb BK649 hb; clear hb hbox hg; have hnb153 := NB656_606.out; have hnc153 := NB606_656.out; have hnb154 := NB656_607.out; have hnc154 := NB607_656.out; have hnb155 := NB656_649.out; have hnc155 := NB649_656.out; obtain ⟨hcz156_0, hcz156_1, hcz156_2⟩ := zC3 BK656; obtain ⟨hfz156_0, hfz156_1, hfz156_2⟩ := zZ3 BK656; obtain ⟨Ao157, co157, eo157⟩ := Kd.R_slice HO654.out; subst eo157))
           have n0_ : Aside0 (Kd.R k49 49 (((w152.setCell ⟨gb656, 0, none⟩ (.int .i64 t650)).setCell ⟨gb656, 1, none⟩ (.int .i64 t651)).setCell ⟨gb656, 2, none⟩ (.slice Ao157 t652.length co157)) w.heap.size (fun _ => True) (.slice Ao150 t645.length co150) t645) := ⟨by (with_reducible repeat (first | apply Kd.R_alloc | apply Kd.R_drewN | apply Kd.R_drew)); exact Kd.R_mono (Kd.R_far (p := ⟨gb656, 2, none⟩) (Kd.R_far (p := ⟨gb656, 1, none⟩) (Kd.R_far (p := ⟨gb656, 0, none⟩) (Kd.R_types HO647.out BK656.out (by decide)) (fun _ hk => hk.2) (.int .i64 t650)) (fun _ hk => hk.2) (.int .i64 t651)) (fun _ hk => hk.2) (.slice Ao157 t652.length co157)) (fun _ hk => trivial)⟩
           have n1_ : Aside0 (Kd.R k47 47 (((w152.setCell ⟨gb656, 0, none⟩ (.int .i64 t650)).setCell ⟨gb656, 1, none⟩ (.int .i64 t651)).setCell ⟨gb656, 2, none⟩ (.slice Ao157 t652.length co157)) w.heap.size (fun _ => True) (.slice Ao157 t652.length co157) t652) := ⟨by (with_reducible repeat (first | apply Kd.R_alloc | apply Kd.R_drewN | apply Kd.R_drew)); exact Kd.R_mono (Kd.R_far (p := ⟨gb656, 2, none⟩) (Kd.R_far (p := ⟨gb656, 1, none⟩) (Kd.R_far (p := ⟨gb656, 0, none⟩) (Kd.R_types HO654.out BK656.out (by decide)) (fun _ hk => hk.2) (.int .i64 t650)) (fun _ hk => hk.2) (.int .i64 t651)) (fun _ hk => hk.2) (.slice Ao157 t652.length co157)) (fun _ hk => trivial)⟩
           have n2_ : Aside0 ((((w152.setCell ⟨gb656, 0, none⟩ (.int .i64 t650)).setCell ⟨gb656, 1, none⟩ (.int .i64 t651)).setCell ⟨gb656, 2, none⟩ (.slice Ao157 t652.length co157)).heap[gb606]? = some (.cells #[.int .i64 a0_0, .int .i64 a0_1, .slice A0_2 l0_2.length c0_2] 27 (0, 0))) := ⟨zF BK606⟩
           have n3_ : Aside0 ((((w152.setCell ⟨gb656, 0, none⟩ (.int .i64 t650)).setCell ⟨gb656, 1, none⟩ (.int .i64 t651)).setCell ⟨gb656, 2, none⟩ (.slice Ao157 t652.length co157)).heap[gb607]? = some (.cells #[.int .i64 a1_0, .int .i64 a1_1, .slice A1_2 l1_2.length c1_2] 30 (0, 0))) := ⟨zF BK607⟩
           have n4_ : Aside0 ((((w152.setCell ⟨gb656, 0, none⟩ (.int .i64 t650)).setCell ⟨gb656, 1, none⟩ (.int .i64 t651)).setCell ⟨gb656, 2, none⟩ (.slice Ao157 t652.length co157)).heap[gb649]? = some (.cells #[.int .i64 t643, .int .i64 t644, .slice Ao150 t645.length co150] 30 (0, 0))) := ⟨zF BK649⟩
           have n5_ : Aside0 ((((w152.setCell ⟨gb656, 0, none⟩ (.int .i64 t650)).setCell ⟨gb656, 1, none⟩ (.int .i64 t651)).setCell ⟨gb656, 2, none⟩ (.slice Ao157 t652.length co157)).heap[gb656]? = some (.cells #[.int .i64 t650, .int .i64 t651, .slice Ao157 t652.length co157] 27 (0, 0))) := ⟨by (with_reducible repeat (first | apply blk_drewN | apply blk_drew | apply blk_alloc)); refine blk_put (cs := #[.int .i64 t650, .int .i64 t651, .slice none 0 0]) ?_ 2 _ rfl; (with_reducible repeat (first | apply blk_drewN | apply blk_drew | apply blk_alloc)); refine blk_put (cs := #[.int .i64 t650, .int .i64 0, .slice none 0 0]) ?_ 1 _ rfl; (with_reducible repeat (first | apply blk_drewN | apply blk_drew | apply blk_alloc)); refine blk_put (cs := #[.int .i64 0, .int .i64 0, .slice none 0 0]) ?_ 0 _ rfl; (with_reducible repeat (first | apply blk_drewN | apply blk_drew | apply blk_alloc)); exact BK656.out⟩
           have n6_ : Aside0 (Below w.heap.size w (((w152.setCell ⟨gb656, 0, none⟩ (.int .i64 t650)).setCell ⟨gb656, 1, none⟩ (.int .i64 t651)).setCell ⟨gb656, 2, none⟩ (.slice Ao157 t652.length co157))) := ⟨zB⟩
           (try clear HO647)
           (try clear HO654)
           (try clear BK606)
           (try clear BK607)
           (try clear BK649)
           (try clear BK656)
           (try clear HB)
           generalize (((w152.setCell ⟨gb656, 0, none⟩ (.int .i64 t650)).setCell ⟨gb656, 1, none⟩ (.int .i64 t651)).setCell ⟨gb656, 2, none⟩ (.slice Ao157 t652.length co157)) = w158 at n0_ n1_ n2_ n3_ n4_ n5_ n6_ ⊢
           have HO647 := n0_; have HO654 := n1_; have BK606 := n2_; have BK607 := n3_; have BK649 := n4_; have BK656 := n5_; have HB := n6_; clear n0_ n1_ n2_ n3_ n4_ n5_ n6_; replace HO647 := Aside0.mk (Kd.R_drew HO647.out); replace HO654 := Aside0.mk (Kd.R_drew HO654.out); replace BK606 := Aside0.mk (blk_drew BK606.out); replace BK607 := Aside0.mk (blk_drew BK607.out); replace BK649 := Aside0.mk (blk_drew BK649.out); replace BK656 := Aside0.mk (blk_drew BK656.out); replace HB := Aside0.mk (below_drew1 HB.out); 
           refine start_ (n := 18) (S := fun w' => True) (ds := []) zarz28 (by kernel_rfl) rfl rfl trivial (fun hHeld => ?_); refine with_tabW annuitantlaw36_BankBack.tab21 annuitantlaw36_BankBack.bits21 (fun HT_ HW_ => ?_)
           generalize w158.drew = w159 at HO647 HO654 BK606 BK607 BK649 BK656 HB hHeld ⊢
           refine zarp 0 (some 113) zarz29 rfl rfl (any_of HT_.out (by kernel_rfl)) zarq (Or.inl ⟨by rfl, by intro w'; go_simp; with_reducible rfl⟩) (by simp only [Act.put, zar1, zar2, zar3, i64_w, i32_w]; rfl) ?_
           refine zarp 1 (some 114) zarz30 rfl rfl (any_of HT_.out (by kernel_rfl)) zarq (Or.inl ⟨by rfl, by intro w'; go_simp; with_reducible rfl⟩) (by simp only [Act.put, zar1, zar2, zar3, i64_w, i32_w]; rfl) ?_
           refine zarp 2 (some 115) zarz31 rfl rfl (any_of HT_.out (by kernel_rfl)) zarq (Or.inl ⟨by rfl, by intro w'; go_simp; with_reducible rfl⟩) (by simp only [Act.put, zar1, zar2, zar3, i64_w, i32_w]; rfl) ?_
           refine zarp 3 (some 116) zarz32 rfl rfl (any_of HT_.out (by kernel_rfl)) zarq (Or.inl ⟨by rfl, by intro w'; go_simp; with_reducible rfl⟩) (by simp only [Act.put, zar1, zar2, zar3, i64_w, i32_w]; rfl) ?_
           refine zarp 4 (some 117) zarz33 rfl rfl (any_of HT_.out (by kernel_rfl)) zarq (Or.inl ⟨by rfl, by intro w'; go_simp; with_reducible rfl⟩) (by simp only [Act.put, zar1, zar2, zar3, i64_w, i32_w]; rfl) ?_
           refine zarp 5 (some 118) zarz34 rfl rfl (any_of HT_.out (by kernel_rfl)) zarq (Or.inl ⟨by rfl, by intro w'; go_simp; with_reducible rfl⟩) (by simp only [Act.put, zar1, zar2, zar3, i64_w, i32_w]; rfl) ?_
           refine zarp 6 (some 119) zarz35 rfl rfl (any_of HT_.out (by kernel_rfl)) zarq (Or.inl ⟨by rfl, by intro w'; go_simp; with_reducible rfl⟩) (by simp only [Act.put, zar1, zar2, zar3, i64_w, i32_w]; rfl) ?_
           refine zarp 7 (some 120) zarz36 rfl rfl (any_of HT_.out (by kernel_rfl)) zarq (Or.inl ⟨by rfl, by intro w'; go_simp; with_reducible rfl⟩) (by simp only [Act.put, zar1, zar2, zar3, i64_w, i32_w]; rfl) ?_
           refine zarp 8 (some 121) zarz37 rfl rfl (any_of HT_.out (by kernel_rfl)) zarq (Or.inl ⟨by rfl, by intro w'; go_simp; with_reducible rfl⟩) (by simp only [Act.put, zar1, zar2, zar3, i64_w, i32_w]; rfl) ?_
           refine zarp 9 (some 122) zarz38 rfl rfl (any_of HT_.out (by kernel_rfl)) zarq (Or.inl ⟨by rfl, by intro w'; go_simp; with_reducible rfl⟩) (by simp only [Act.put, zar1, zar2, zar3, i64_w, i32_w]; rfl) ?_
           refine zarp 10 (some 123) zarz39 rfl rfl (any_of HT_.out (by kernel_rfl)) zarq (Or.inl ⟨by rfl, by intro w'; go_simp; with_reducible rfl⟩) (by simp only [Act.put, zar1, zar2, zar3, i64_w, i32_w]; rfl) ?_
           refine zarp 11 (some 124) zarz40 rfl rfl (any_of HT_.out (by kernel_rfl)) zarq (Or.inr ⟨by rfl, rfl⟩) (by simp only [Act.put, zar1, zar2, zar3, i64_w, i32_w]; rfl) ?_
           refine zarp 12 (some 125) zarz47 rfl rfl (any_of HT_.out (by kernel_rfl)) zarq (Or.inr ⟨by rfl, rfl⟩) (by simp only [Act.put, zar1, zar2, zar3, i64_w, i32_w]; rfl) ?_
           refine zarp 13 (some 126) zarz42 rfl rfl (any_of HT_.out (by kernel_rfl)) zarq (Or.inr ⟨by rfl, rfl⟩) (by simp only [Act.put, zar1, zar2, zar3, i64_w, i32_w]; rfl) ?_
           refine zarp 14 (some 127) zarz43 rfl rfl (any_of HT_.out (by kernel_rfl)) zarq (Or.inr ⟨by rfl, rfl⟩) (by simp only [Act.put, zar1, zar2, zar3, i64_w, i32_w]; rfl) ?_
           refine zarp 15 (some 128) zarz44 rfl rfl (any_of HT_.out (by kernel_rfl)) zarq (Or.inr ⟨by rfl, rfl⟩) (by simp only [Act.put, zar1, zar2, zar3, i64_w, i32_w]; rfl) ?_
           refine zarp 16 (some 129) zarz45 rfl rfl (any_of HT_.out (by kernel_rfl)) zarq (Or.inl ⟨by rfl, by intro w'; go_simp; with_reducible rfl⟩) (by simp only [Act.put, zar1, zar2, zar3, i64_w, i32_w]; rfl) ?_
           refine zarp 17 (some 4) zarz46 rfl rfl (any_of HT_.out (by kernel_rfl)) zarq (Or.inl ⟨by rfl, by intro w'; go_simp; with_reducible rfl⟩) (by simp only [Act.put, zar1, zar2, zar3, i64_w, i32_w]; rfl) ?_
           refine done_ (done_of HT_.out (by kernel_rfl)) ?_
           try go_wp2
           go_ret
           exact ⟨zE, zB⟩
         ·
          rw [if_neg c110] at H
          have c110b0 : (t648 == 0) = false := beq_eq_false_iff_ne.mpr c110; have c110b1 : (t648 != 0) = true := bne_iff_ne.mpr c110; obtain rfl := Option.some.inj H; have hnb160 := NB607_606.out; have hnc160 := NB606_607.out; obtain ⟨hcz161_0, hcz161_1, hcz161_2⟩ := zC3 BK607; obtain ⟨hfz161_0, hfz161_1, hfz161_2⟩ := zZ3 BK607
          try go_wp2_with (first | ((with_reducible refine gate_callee (f := 28) rfl ?_); refine goesL_ (some 96) rfl rfl Tryz.func28 (by kernel_rfl) rfl #[.agg #[.int .i64 a1_0, .int .i64 a1_1, .slice A1_2 l1_2.length c1_2]] rfl (by (try simp only [List.map_toArray, List.map_cons, List.map_nil]); try rfl) ?_; (with_reducible refine (bank_Right.calls kj16 a1_0 a1_1 _ _ l1_2 true _ ?side1 ?side2 A104.out).mono ?_); (case side1 => repeat (first | exact (Kd.C_below HR1_2.out HB.out) | (with_reducible refine Kd.C_alloc ?_ _) | (with_reducible refine Kd.C_drewN ?_ _) | (with_reducible refine Kd.C_drew ?_))); (case side2 => exact HC1_2.out); rintro e w162 ⟨rfl, hb⟩; refine ⟨_, rfl, ?_⟩; replace BK606 := zKb BK606 hb; replace BK607 := zKb BK607 hb; replace HB := zBs hb; (try clear hb); (try clear hb2); (try clear hk); (try clear hi); obtain ⟨hcz163_0, hcz163_1, hcz163_2⟩ := zC3 BK607; obtain ⟨hfz163_0, hfz163_1, hfz163_2⟩ := zZ3 BK607) | ((with_reducible refine gate_callee (f := 29) rfl ?_); refine goesL_ (some 100) rfl rfl Tryz.func29 (by kernel_rfl) rfl #[.agg #[.int .i64 a1_0, .int .i64 a1_1, .slice A1_2 l1_2.length c1_2]] rfl (by (try simp only [List.map_toArray, List.map_cons, List.map_nil]); try rfl) ?_; (with_reducible refine (bank_WriteAnswer.calls kj16 a1_0 a1_1 _ _ l1_2 t641 t642 _ ?side1 ?side2 ?side3 A106.out).mono ?_); (case side1 => repeat (first | exact (Kd.C_below HR1_2.out HB.out) | (with_reducible refine Kd.C_alloc ?_ _) | (with_reducible refine Kd.C_drewN ?_ _) | (with_reducible refine Kd.C_drew ?_))); (case side2 => exact HC1_2.out); (case side3 => exact GG.below HG.out zB); rintro e w164 ⟨rfl, hb⟩; refine ⟨_, rfl, ?_⟩; replace BK606 := zKb BK606 hb; replace BK607 := zKb BK607 hb; replace HB := zBs hb; (try clear hb); (try clear hb2); (try clear hk); (try clear hi)) | ((with_reducible refine gate_callee (f := 25) rfl ?_); refine goesL_ (some 105) rfl rfl Tryz.func25 (by kernel_rfl) rfl #[.string t641] rfl (by (try simp only [List.map_toArray, List.map_cons, List.map_nil]); try rfl) ?_; (with_reducible refine (bank_ReadAnswer.calls kj16 t641 t643 t644 t645 t648 _ ?side1 A107.out).mono ?_); (case side1 => exact GG.below HG.out zB); rintro e w165 ⟨v646, rfl, ho0, hb⟩; refine ⟨_, rfl, ?_⟩; have HO647 := Aside0.mk (Kd.R_lower ho0 (below_size zB)); replace BK606 := zKb BK606 hb; replace BK607 := zKb BK607 hb; replace HB := zBs hb; (try clear hb); (try clear hb2); (try clear hk); (try clear hi); (try clear ho0)) | ((with_reducible refine gate_dst (N := 16) rfl ?_); (try (refine gate_guard (by rfl) ?_; dsimp only)); refine box_event ?hg (N := 16) ?hd (cs := #[.int .i64 0, .int .i64 0, .slice none 0 0]) (t := 30) ?hr ?_; (case hd => rfl); (case hg => rfl); (case hr => first | (go_simp; done) | (go_simp; rfl)); intro gb649 hg w166 hbox hb; replace HO647 := Aside0.mk (Kd.R_below (zR HO647) hb); have BK649 := Aside0.mk (hbox); have GW649 := zG (w := w) hg; have GE649 := zG (w := w) hg; replace HB := zBs hb; have NB606_649 := zN hg (zK BK606); have NB649_606 := zM hg (zK BK606); replace BK606 := zKb BK606 hb; have NB607_649 := zN hg (zK BK607); have NB649_607 := zM hg (zK BK607); replace BK607 := zKb BK607 hb; clear hb hbox hg; have hnb167 := NB649_606.out; have hnc167 := NB606_649.out; have hnb168 := NB649_607.out; have hnc168 := NB607_649.out; obtain ⟨hcz169_0, hcz169_1, hcz169_2⟩ := zC3 BK649; obtain ⟨hfz169_0, hfz169_1, hfz169_2⟩ := zZ3 BK649; obtain ⟨Ao170, co170, eo170⟩ := Kd.R_slice HO647.out; subst eo170) | ((with_reducible refine gate_callee (f := 24) rfl ?_); refine goesL_ (some 110) rfl rfl Tryz.func24 (by kernel_rfl) rfl #[.string t641] rfl (by (try simp only [List.map_toArray, List.map_cons, List.map_nil]); try rfl) ?_; (with_reducible refine (bank_Read.calls kj16 t641 t650 t651 t652 t655 _ ?side1 A108.out).mono ?_); (case side1 => exact GG.below HG.out zB); rintro e w171 ⟨v653, rfl, ho0, hb⟩; refine ⟨_, rfl, ?_⟩; replace HO647 := Aside0.mk (Kd.R_below (by (with_reducible repeat (first | apply Kd.R_alloc | apply Kd.R_drewN | apply Kd.R_drew)); exact (Kd.R_mono (Kd.R_far (p := ⟨gb649, 2, none⟩) (Kd.R_far (p := ⟨gb649, 1, none⟩) (Kd.R_far (p := ⟨gb649, 0, none⟩) (Kd.R_types HO647.out BK649.out (by decide)) (fun _ hk => hk.2) (.int .i64 t643)) (fun _ hk => hk.2) (.int .i64 t644)) (fun _ hk => hk.2) (.slice Ao170 t645.length co170)) (fun _ h_ => h_.1))) hb); have HO654 := Aside0.mk (Kd.R_lower ho0 (below_size zB)); replace BK606 := Aside0.mk (blk_below (zF BK606) hb); replace BK607 := Aside0.mk (blk_below (zF BK607) hb); replace BK649 := Aside0.mk (blk_below (g := gb649) (o := .cells #[.int .i64 t643, .int .i64 t644, .slice Ao170 t645.length co170] 30 (0, 0)) (by (with_reducible repeat (first | apply blk_drewN | apply blk_drew | apply blk_alloc)); refine blk_put (cs := #[.int .i64 t643, .int .i64 t644, .slice none 0 0]) ?_ 2 _ rfl; (with_reducible repeat (first | apply blk_drewN | apply blk_drew | apply blk_alloc)); refine blk_put (cs := #[.int .i64 t643, .int .i64 0, .slice none 0 0]) ?_ 1 _ rfl; (with_reducible repeat (first | apply blk_drewN | apply blk_drew | apply blk_alloc)); refine blk_put (cs := #[.int .i64 0, .int .i64 0, .slice none 0 0]) ?_ 0 _ rfl; (with_reducible repeat (first | apply blk_drewN | apply blk_drew | apply blk_alloc)); exact BK649.out) hb); replace HB := zBs hb; (try clear hb); (try clear hb2); (try clear hk); (try clear hi); (try clear ho0)) | ((with_reducible refine gate_dst (N := 18) rfl ?_); (try (refine gate_guard (by rfl) ?_; dsimp only)); refine box_event ?hg (N := 18) ?hd (cs := #[.int .i64 0, .int .i64 0, .slice none 0 0]) (t := 27) ?hr ?_; (case hd => rfl); (case hg => rfl); (case hr => first | (go_simp; done) | (go_simp; rfl)); intro gb656 hg w172 hbox hb; replace HO647 := Aside0.mk (Kd.R_below (zR HO647) hb); replace HO654 := Aside0.mk (Kd.R_below (zR HO654) hb); have BK656 := Aside0.mk (hbox); have GW656 := zG (w := w) hg; have GE656 := zG (w := w) hg; replace HB := zBs hb; have NB606_656 := zN hg (zK BK606); have NB656_606 := zM hg (zK BK606); replace BK606 := zKb BK606 hb; have NB607_656 := zN hg (zK BK607); have NB656_607 := zM hg (zK BK607); replace BK607 := zKb BK607 hb; have NB649_656 := zN hg (zK BK649); have NB656_649 := zM hg (zK BK649); replace BK649 := zKb BK649 hb; clear hb hbox hg; have hnb173 := NB656_606.out; have hnc173 := NB606_656.out; have hnb174 := NB656_607.out; have hnc174 := NB607_656.out; have hnb175 := NB656_649.out; have hnc175 := NB649_656.out; obtain ⟨hcz176_0, hcz176_1, hcz176_2⟩ := zC3 BK656; obtain ⟨hfz176_0, hfz176_1, hfz176_2⟩ := zZ3 BK656; obtain ⟨Ao177, co177, eo177⟩ := Kd.R_slice HO654.out; subst eo177))
          have n0_ : Aside0 (Kd.R k49 49 (((w172.setCell ⟨gb656, 0, none⟩ (.int .i64 t650)).setCell ⟨gb656, 1, none⟩ (.int .i64 t651)).setCell ⟨gb656, 2, none⟩ (.slice Ao177 t652.length co177)) w.heap.size (fun _ => True) (.slice Ao170 t645.length co170) t645) := ⟨by (with_reducible repeat (first | apply Kd.R_alloc | apply Kd.R_drewN | apply Kd.R_drew)); exact Kd.R_mono (Kd.R_far (p := ⟨gb656, 2, none⟩) (Kd.R_far (p := ⟨gb656, 1, none⟩) (Kd.R_far (p := ⟨gb656, 0, none⟩) (Kd.R_types HO647.out BK656.out (by decide)) (fun _ hk => hk.2) (.int .i64 t650)) (fun _ hk => hk.2) (.int .i64 t651)) (fun _ hk => hk.2) (.slice Ao177 t652.length co177)) (fun _ hk => trivial)⟩
          have n1_ : Aside0 (Kd.R k47 47 (((w172.setCell ⟨gb656, 0, none⟩ (.int .i64 t650)).setCell ⟨gb656, 1, none⟩ (.int .i64 t651)).setCell ⟨gb656, 2, none⟩ (.slice Ao177 t652.length co177)) w.heap.size (fun _ => True) (.slice Ao177 t652.length co177) t652) := ⟨by (with_reducible repeat (first | apply Kd.R_alloc | apply Kd.R_drewN | apply Kd.R_drew)); exact Kd.R_mono (Kd.R_far (p := ⟨gb656, 2, none⟩) (Kd.R_far (p := ⟨gb656, 1, none⟩) (Kd.R_far (p := ⟨gb656, 0, none⟩) (Kd.R_types HO654.out BK656.out (by decide)) (fun _ hk => hk.2) (.int .i64 t650)) (fun _ hk => hk.2) (.int .i64 t651)) (fun _ hk => hk.2) (.slice Ao177 t652.length co177)) (fun _ hk => trivial)⟩
          have n2_ : Aside0 ((((w172.setCell ⟨gb656, 0, none⟩ (.int .i64 t650)).setCell ⟨gb656, 1, none⟩ (.int .i64 t651)).setCell ⟨gb656, 2, none⟩ (.slice Ao177 t652.length co177)).heap[gb606]? = some (.cells #[.int .i64 a0_0, .int .i64 a0_1, .slice A0_2 l0_2.length c0_2] 27 (0, 0))) := ⟨zF BK606⟩
          have n3_ : Aside0 ((((w172.setCell ⟨gb656, 0, none⟩ (.int .i64 t650)).setCell ⟨gb656, 1, none⟩ (.int .i64 t651)).setCell ⟨gb656, 2, none⟩ (.slice Ao177 t652.length co177)).heap[gb607]? = some (.cells #[.int .i64 a1_0, .int .i64 a1_1, .slice A1_2 l1_2.length c1_2] 30 (0, 0))) := ⟨zF BK607⟩
          have n4_ : Aside0 ((((w172.setCell ⟨gb656, 0, none⟩ (.int .i64 t650)).setCell ⟨gb656, 1, none⟩ (.int .i64 t651)).setCell ⟨gb656, 2, none⟩ (.slice Ao177 t652.length co177)).heap[gb649]? = some (.cells #[.int .i64 t643, .int .i64 t644, .slice Ao170 t645.length co170] 30 (0, 0))) := ⟨zF BK649⟩
          have n5_ : Aside0 ((((w172.setCell ⟨gb656, 0, none⟩ (.int .i64 t650)).setCell ⟨gb656, 1, none⟩ (.int .i64 t651)).setCell ⟨gb656, 2, none⟩ (.slice Ao177 t652.length co177)).heap[gb656]? = some (.cells #[.int .i64 t650, .int .i64 t651, .slice Ao177 t652.length co177] 27 (0, 0))) := ⟨by (with_reducible repeat (first | apply blk_drewN | apply blk_drew | apply blk_alloc)); refine blk_put (cs := #[.int .i64 t650, .int .i64 t651, .slice none 0 0]) ?_ 2 _ rfl; (with_reducible repeat (first | apply blk_drewN | apply blk_drew | apply blk_alloc)); refine blk_put (cs := #[.int .i64 t650, .int .i64 0, .slice none 0 0]) ?_ 1 _ rfl; (with_reducible repeat (first | apply blk_drewN | apply blk_drew | apply blk_alloc)); refine blk_put (cs := #[.int .i64 0, .int .i64 0, .slice none 0 0]) ?_ 0 _ rfl; (with_reducible repeat (first | apply blk_drewN | apply blk_drew | apply blk_alloc)); exact BK656.out⟩
          have n6_ : Aside0 (Below w.heap.size w (((w172.setCell ⟨gb656, 0, none⟩ (.int .i64 t650)).setCell ⟨gb656, 1, none⟩ (.int .i64 t651)).setCell ⟨gb656, 2, none⟩ (.slice Ao177 t652.length co177))) := ⟨zB⟩
          (try clear HO647)
          (try clear HO654)
          (try clear BK606)
          (try clear BK607)
          (try clear BK649)
          (try clear BK656)
          (try clear HB)
          generalize (((w172.setCell ⟨gb656, 0, none⟩ (.int .i64 t650)).setCell ⟨gb656, 1, none⟩ (.int .i64 t651)).setCell ⟨gb656, 2, none⟩ (.slice Ao177 t652.length co177)) = w178 at n0_ n1_ n2_ n3_ n4_ n5_ n6_ ⊢
          have HO647 := n0_; have HO654 := n1_; have BK606 := n2_; have BK607 := n3_; have BK649 := n4_; have BK656 := n5_; have HB := n6_; clear n0_ n1_ n2_ n3_ n4_ n5_ n6_; replace HO647 := Aside0.mk (Kd.R_drew HO647.out); replace HO654 := Aside0.mk (Kd.R_drew HO654.out); replace BK606 := Aside0.mk (blk_drew BK606.out); replace BK607 := Aside0.mk (blk_drew BK607.out); replace BK649 := Aside0.mk (blk_drew BK649.out); replace BK656 := Aside0.mk (blk_drew BK656.out); replace HB := Aside0.mk (below_drew1 HB.out); 
          refine start_ (n := 18) (S := fun w' => True) (ds := []) zarz28 (by kernel_rfl) rfl rfl trivial (fun hHeld => ?_); refine with_tabW annuitantlaw36_BankBack.tab21 annuitantlaw36_BankBack.bits21 (fun HT_ HW_ => ?_)
          generalize w178.drew = w179 at HO647 HO654 BK606 BK607 BK649 BK656 HB hHeld ⊢
          refine zarp 0 (some 113) zarz29 rfl rfl (any_of HT_.out (by kernel_rfl)) zarq (Or.inl ⟨by rfl, by intro w'; go_simp; with_reducible rfl⟩) (by simp only [Act.put, zar1, zar2, zar3, i64_w, i32_w]; rfl) ?_
          refine zarp 1 (some 114) zarz30 rfl rfl (any_of HT_.out (by kernel_rfl)) zarq (Or.inl ⟨by rfl, by intro w'; go_simp; with_reducible rfl⟩) (by simp only [Act.put, zar1, zar2, zar3, i64_w, i32_w]; rfl) ?_
          refine zarp 2 (some 115) zarz31 rfl rfl (any_of HT_.out (by kernel_rfl)) zarq (Or.inl ⟨by rfl, by intro w'; go_simp; with_reducible rfl⟩) (by simp only [Act.put, zar1, zar2, zar3, i64_w, i32_w]; rfl) ?_
          refine zarp 3 (some 116) zarz32 rfl rfl (any_of HT_.out (by kernel_rfl)) zarq (Or.inl ⟨by rfl, by intro w'; go_simp; with_reducible rfl⟩) (by simp only [Act.put, zar1, zar2, zar3, i64_w, i32_w]; rfl) ?_
          refine zarp 4 (some 117) zarz33 rfl rfl (any_of HT_.out (by kernel_rfl)) zarq (Or.inl ⟨by rfl, by intro w'; go_simp; with_reducible rfl⟩) (by simp only [Act.put, zar1, zar2, zar3, i64_w, i32_w]; rfl) ?_
          refine zarp 5 (some 118) zarz34 rfl rfl (any_of HT_.out (by kernel_rfl)) zarq (Or.inl ⟨by rfl, by intro w'; go_simp; with_reducible rfl⟩) (by simp only [Act.put, zar1, zar2, zar3, i64_w, i32_w]; rfl) ?_
          refine zarp 6 (some 119) zarz35 rfl rfl (any_of HT_.out (by kernel_rfl)) zarq (Or.inl ⟨by rfl, by intro w'; go_simp; with_reducible rfl⟩) (by simp only [Act.put, zar1, zar2, zar3, i64_w, i32_w]; rfl) ?_
          refine zarp 7 (some 120) zarz36 rfl rfl (any_of HT_.out (by kernel_rfl)) zarq (Or.inr ⟨by rfl, rfl⟩) (by simp only [Act.put, zar1, zar2, zar3, i64_w, i32_w]; rfl) ?_
          refine zarp 8 (some 121) zarz37 rfl rfl (any_of HT_.out (by kernel_rfl)) zarq (Or.inr ⟨by rfl, rfl⟩) (by simp only [Act.put, zar1, zar2, zar3, i64_w, i32_w]; rfl) ?_
          refine zarp 9 (some 122) zarz38 rfl rfl (any_of HT_.out (by kernel_rfl)) zarq (Or.inl ⟨by rfl, by intro w'; go_simp; with_reducible rfl⟩) (by simp only [Act.put, zar1, zar2, zar3, i64_w, i32_w]; rfl) ?_
          refine zarp 10 (some 123) zarz39 rfl rfl (any_of HT_.out (by kernel_rfl)) zarq (Or.inl ⟨by rfl, by intro w'; go_simp; with_reducible rfl⟩) (by simp only [Act.put, zar1, zar2, zar3, i64_w, i32_w]; rfl) ?_
          refine zarp 11 (some 124) zarz40 rfl rfl (any_of HT_.out (by kernel_rfl)) zarq (Or.inr ⟨by rfl, rfl⟩) (by simp only [Act.put, zar1, zar2, zar3, i64_w, i32_w]; rfl) ?_
          refine zarp 12 (some 125) zarz47 rfl rfl (any_of HT_.out (by kernel_rfl)) zarq (Or.inr ⟨by rfl, rfl⟩) (by simp only [Act.put, zar1, zar2, zar3, i64_w, i32_w]; rfl) ?_
          refine zarp 13 (some 126) zarz42 rfl rfl (any_of HT_.out (by kernel_rfl)) zarq (Or.inr ⟨by rfl, rfl⟩) (by simp only [Act.put, zar1, zar2, zar3, i64_w, i32_w]; rfl) ?_
          refine zarp 14 (some 127) zarz43 rfl rfl (any_of HT_.out (by kernel_rfl)) zarq (Or.inr ⟨by rfl, rfl⟩) (by simp only [Act.put, zar1, zar2, zar3, i64_w, i32_w]; rfl) ?_
          refine zarp 15 (some 128) zarz44 rfl rfl (any_of HT_.out (by kernel_rfl)) zarq (Or.inr ⟨by rfl, rfl⟩) (by simp only [Act.put, zar1, zar2, zar3, i64_w, i32_w]; rfl) ?_
          refine zarp 16 (some 129) zarz45 rfl rfl (any_of HT_.out (by kernel_rfl)) zarq (Or.inl ⟨by rfl, by intro w'; go_simp; with_reducible rfl⟩) (by simp only [Act.put, zar1, zar2, zar3, i64_w, i32_w]; rfl) ?_
          refine zarp 17 (some 4) zarz46 rfl rfl (any_of HT_.out (by kernel_rfl)) zarq (Or.inl ⟨by rfl, by intro w'; go_simp; with_reducible rfl⟩) (by simp only [Act.put, zar1, zar2, zar3, i64_w, i32_w]; rfl) ?_
          refine done_ (done_of HT_.out (by kernel_rfl)) ?_
          try go_wp2
          go_ret
          exact ⟨zE, zB⟩
        ·
         rw [if_neg c109] at H
         have c109b0 : (t642 == 0) = false := beq_eq_false_iff_ne.mpr c109; have c109b1 : (t642 != 0) = true := bne_iff_ne.mpr c109; obtain rfl := Option.some.inj H; have hnb180 := NB607_606.out; have hnc180 := NB606_607.out; obtain ⟨hcz181_0, hcz181_1, hcz181_2⟩ := zC3 BK607; obtain ⟨hfz181_0, hfz181_1, hfz181_2⟩ := zZ3 BK607
         try go_wp2_with (first | ((with_reducible refine gate_callee (f := 28) rfl ?_); refine goesL_ (some 96) rfl rfl Tryz.func28 (by kernel_rfl) rfl #[.agg #[.int .i64 a1_0, .int .i64 a1_1, .slice A1_2 l1_2.length c1_2]] rfl (by (try simp only [List.map_toArray, List.map_cons, List.map_nil]); try rfl) ?_; (with_reducible refine (bank_Right.calls kj16 a1_0 a1_1 _ _ l1_2 true _ ?side1 ?side2 A104.out).mono ?_); (case side1 => repeat (first | exact (Kd.C_below HR1_2.out HB.out) | (with_reducible refine Kd.C_alloc ?_ _) | (with_reducible refine Kd.C_drewN ?_ _) | (with_reducible refine Kd.C_drew ?_))); (case side2 => exact HC1_2.out); rintro e w182 ⟨rfl, hb⟩; refine ⟨_, rfl, ?_⟩; replace BK606 := zKb BK606 hb; replace BK607 := zKb BK607 hb; replace HB := zBs hb; (try clear hb); (try clear hb2); (try clear hk); (try clear hi); obtain ⟨hcz183_0, hcz183_1, hcz183_2⟩ := zC3 BK607; obtain ⟨hfz183_0, hfz183_1, hfz183_2⟩ := zZ3 BK607) | ((with_reducible refine gate_callee (f := 29) rfl ?_); refine goesL_ (some 100) rfl rfl Tryz.func29 (by kernel_rfl) rfl #[.agg #[.int .i64 a1_0, .int .i64 a1_1, .slice A1_2 l1_2.length c1_2]] rfl (by (try simp only [List.map_toArray, List.map_cons, List.map_nil]); try rfl) ?_; (with_reducible refine (bank_WriteAnswer.calls kj16 a1_0 a1_1 _ _ l1_2 t641 t642 _ ?side1 ?side2 ?side3 A106.out).mono ?_); (case side1 => repeat (first | exact (Kd.C_below HR1_2.out HB.out) | (with_reducible refine Kd.C_alloc ?_ _) | (with_reducible refine Kd.C_drewN ?_ _) | (with_reducible refine Kd.C_drew ?_))); (case side2 => exact HC1_2.out); (case side3 => exact GG.below HG.out zB); rintro e w184 ⟨rfl, hb⟩; refine ⟨_, rfl, ?_⟩; replace BK606 := zKb BK606 hb; replace BK607 := zKb BK607 hb; replace HB := zBs hb; (try clear hb); (try clear hb2); (try clear hk); (try clear hi)) | ((with_reducible refine gate_callee (f := 25) rfl ?_); refine goesL_ (some 105) rfl rfl Tryz.func25 (by kernel_rfl) rfl #[.string t641] rfl (by (try simp only [List.map_toArray, List.map_cons, List.map_nil]); try rfl) ?_; (with_reducible refine (bank_ReadAnswer.calls kj16 t641 t643 t644 t645 t648 _ ?side1 A107.out).mono ?_); (case side1 => exact GG.below HG.out zB); rintro e w185 ⟨v646, rfl, ho0, hb⟩; refine ⟨_, rfl, ?_⟩; have HO647 := Aside0.mk (Kd.R_lower ho0 (below_size zB)); replace BK606 := zKb BK606 hb; replace BK607 := zKb BK607 hb; replace HB := zBs hb; (try clear hb); (try clear hb2); (try clear hk); (try clear hi); (try clear ho0)) | ((with_reducible refine gate_dst (N := 16) rfl ?_); (try (refine gate_guard (by rfl) ?_; dsimp only)); refine box_event ?hg (N := 16) ?hd (cs := #[.int .i64 0, .int .i64 0, .slice none 0 0]) (t := 30) ?hr ?_; (case hd => rfl); (case hg => rfl); (case hr => first | (go_simp; done) | (go_simp; rfl)); intro gb649 hg w186 hbox hb; replace HO647 := Aside0.mk (Kd.R_below (zR HO647) hb); have BK649 := Aside0.mk (hbox); have GW649 := zG (w := w) hg; have GE649 := zG (w := w) hg; replace HB := zBs hb; have NB606_649 := zN hg (zK BK606); have NB649_606 := zM hg (zK BK606); replace BK606 := zKb BK606 hb; have NB607_649 := zN hg (zK BK607); have NB649_607 := zM hg (zK BK607); replace BK607 := zKb BK607 hb; clear hb hbox hg; have hnb187 := NB649_606.out; have hnc187 := NB606_649.out; have hnb188 := NB649_607.out; have hnc188 := NB607_649.out; obtain ⟨hcz189_0, hcz189_1, hcz189_2⟩ := zC3 BK649; obtain ⟨hfz189_0, hfz189_1, hfz189_2⟩ := zZ3 BK649; obtain ⟨Ao190, co190, eo190⟩ := Kd.R_slice HO647.out; subst eo190) | ((with_reducible refine gate_callee (f := 24) rfl ?_); refine goesL_ (some 110) rfl rfl Tryz.func24 (by kernel_rfl) rfl #[.string t641] rfl (by (try simp only [List.map_toArray, List.map_cons, List.map_nil]); try rfl) ?_; (with_reducible refine (bank_Read.calls kj16 t641 t650 t651 t652 t655 _ ?side1 A108.out).mono ?_); (case side1 => exact GG.below HG.out zB); rintro e w191 ⟨v653, rfl, ho0, hb⟩; refine ⟨_, rfl, ?_⟩; replace HO647 := Aside0.mk (Kd.R_below (by (with_reducible repeat (first | apply Kd.R_alloc | apply Kd.R_drewN | apply Kd.R_drew)); exact (Kd.R_mono (Kd.R_far (p := ⟨gb649, 2, none⟩) (Kd.R_far (p := ⟨gb649, 1, none⟩) (Kd.R_far (p := ⟨gb649, 0, none⟩) (Kd.R_types HO647.out BK649.out (by decide)) (fun _ hk => hk.2) (.int .i64 t643)) (fun _ hk => hk.2) (.int .i64 t644)) (fun _ hk => hk.2) (.slice Ao190 t645.length co190)) (fun _ h_ => h_.1))) hb); have HO654 := Aside0.mk (Kd.R_lower ho0 (below_size zB)); replace BK606 := Aside0.mk (blk_below (zF BK606) hb); replace BK607 := Aside0.mk (blk_below (zF BK607) hb); replace BK649 := Aside0.mk (blk_below (g := gb649) (o := .cells #[.int .i64 t643, .int .i64 t644, .slice Ao190 t645.length co190] 30 (0, 0)) (by (with_reducible repeat (first | apply blk_drewN | apply blk_drew | apply blk_alloc)); refine blk_put (cs := #[.int .i64 t643, .int .i64 t644, .slice none 0 0]) ?_ 2 _ rfl; (with_reducible repeat (first | apply blk_drewN | apply blk_drew | apply blk_alloc)); refine blk_put (cs := #[.int .i64 t643, .int .i64 0, .slice none 0 0]) ?_ 1 _ rfl; (with_reducible repeat (first | apply blk_drewN | apply blk_drew | apply blk_alloc)); refine blk_put (cs := #[.int .i64 0, .int .i64 0, .slice none 0 0]) ?_ 0 _ rfl; (with_reducible repeat (first | apply blk_drewN | apply blk_drew | apply blk_alloc)); exact BK649.out) hb); replace HB := zBs hb; (try clear hb); (try clear hb2); (try clear hk); (try clear hi); (try clear ho0)) | ((with_reducible refine gate_dst (N := 18) rfl ?_); (try (refine gate_guard (by rfl) ?_; dsimp only)); refine box_event ?hg (N := 18) ?hd (cs := #[.int .i64 0, .int .i64 0, .slice none 0 0]) (t := 27) ?hr ?_; (case hd => rfl); (case hg => rfl); (case hr => first | (go_simp; done) | (go_simp; rfl)); intro gb656 hg w192 hbox hb; replace HO647 := Aside0.mk (Kd.R_below (zR HO647) hb); replace HO654 := Aside0.mk (Kd.R_below (zR HO654) hb); have BK656 := Aside0.mk (hbox); have GW656 := zG (w := w) hg; have GE656 := zG (w := w) hg; replace HB := zBs hb; have NB606_656 := zN hg (zK BK606); have NB656_606 := zM hg (zK BK606); replace BK606 := zKb BK606 hb; have NB607_656 := zN hg (zK BK607); have NB656_607 := zM hg (zK BK607); replace BK607 := zKb BK607 hb; have NB649_656 := zN hg (zK BK649); have NB656_649 := zM hg (zK BK649); replace BK649 := zKb BK649 hb; clear hb hbox hg; have hnb193 := NB656_606.out; have hnc193 := NB606_656.out; have hnb194 := NB656_607.out; have hnc194 := NB607_656.out; have hnb195 := NB656_649.out; have hnc195 := NB649_656.out; obtain ⟨hcz196_0, hcz196_1, hcz196_2⟩ := zC3 BK656; obtain ⟨hfz196_0, hfz196_1, hfz196_2⟩ := zZ3 BK656; obtain ⟨Ao197, co197, eo197⟩ := Kd.R_slice HO654.out; subst eo197))
         have n0_ : Aside0 (Kd.R k49 49 (((w192.setCell ⟨gb656, 0, none⟩ (.int .i64 t650)).setCell ⟨gb656, 1, none⟩ (.int .i64 t651)).setCell ⟨gb656, 2, none⟩ (.slice Ao197 t652.length co197)) w.heap.size (fun _ => True) (.slice Ao190 t645.length co190) t645) := ⟨by (with_reducible repeat (first | apply Kd.R_alloc | apply Kd.R_drewN | apply Kd.R_drew)); exact Kd.R_mono (Kd.R_far (p := ⟨gb656, 2, none⟩) (Kd.R_far (p := ⟨gb656, 1, none⟩) (Kd.R_far (p := ⟨gb656, 0, none⟩) (Kd.R_types HO647.out BK656.out (by decide)) (fun _ hk => hk.2) (.int .i64 t650)) (fun _ hk => hk.2) (.int .i64 t651)) (fun _ hk => hk.2) (.slice Ao197 t652.length co197)) (fun _ hk => trivial)⟩
         have n1_ : Aside0 (Kd.R k47 47 (((w192.setCell ⟨gb656, 0, none⟩ (.int .i64 t650)).setCell ⟨gb656, 1, none⟩ (.int .i64 t651)).setCell ⟨gb656, 2, none⟩ (.slice Ao197 t652.length co197)) w.heap.size (fun _ => True) (.slice Ao197 t652.length co197) t652) := ⟨by (with_reducible repeat (first | apply Kd.R_alloc | apply Kd.R_drewN | apply Kd.R_drew)); exact Kd.R_mono (Kd.R_far (p := ⟨gb656, 2, none⟩) (Kd.R_far (p := ⟨gb656, 1, none⟩) (Kd.R_far (p := ⟨gb656, 0, none⟩) (Kd.R_types HO654.out BK656.out (by decide)) (fun _ hk => hk.2) (.int .i64 t650)) (fun _ hk => hk.2) (.int .i64 t651)) (fun _ hk => hk.2) (.slice Ao197 t652.length co197)) (fun _ hk => trivial)⟩
         have n2_ : Aside0 ((((w192.setCell ⟨gb656, 0, none⟩ (.int .i64 t650)).setCell ⟨gb656, 1, none⟩ (.int .i64 t651)).setCell ⟨gb656, 2, none⟩ (.slice Ao197 t652.length co197)).heap[gb606]? = some (.cells #[.int .i64 a0_0, .int .i64 a0_1, .slice A0_2 l0_2.length c0_2] 27 (0, 0))) := ⟨zF BK606⟩
         have n3_ : Aside0 ((((w192.setCell ⟨gb656, 0, none⟩ (.int .i64 t650)).setCell ⟨gb656, 1, none⟩ (.int .i64 t651)).setCell ⟨gb656, 2, none⟩ (.slice Ao197 t652.length co197)).heap[gb607]? = some (.cells #[.int .i64 a1_0, .int .i64 a1_1, .slice A1_2 l1_2.length c1_2] 30 (0, 0))) := ⟨zF BK607⟩
         have n4_ : Aside0 ((((w192.setCell ⟨gb656, 0, none⟩ (.int .i64 t650)).setCell ⟨gb656, 1, none⟩ (.int .i64 t651)).setCell ⟨gb656, 2, none⟩ (.slice Ao197 t652.length co197)).heap[gb649]? = some (.cells #[.int .i64 t643, .int .i64 t644, .slice Ao190 t645.length co190] 30 (0, 0))) := ⟨zF BK649⟩
         have n5_ : Aside0 ((((w192.setCell ⟨gb656, 0, none⟩ (.int .i64 t650)).setCell ⟨gb656, 1, none⟩ (.int .i64 t651)).setCell ⟨gb656, 2, none⟩ (.slice Ao197 t652.length co197)).heap[gb656]? = some (.cells #[.int .i64 t650, .int .i64 t651, .slice Ao197 t652.length co197] 27 (0, 0))) := ⟨by (with_reducible repeat (first | apply blk_drewN | apply blk_drew | apply blk_alloc)); refine blk_put (cs := #[.int .i64 t650, .int .i64 t651, .slice none 0 0]) ?_ 2 _ rfl; (with_reducible repeat (first | apply blk_drewN | apply blk_drew | apply blk_alloc)); refine blk_put (cs := #[.int .i64 t650, .int .i64 0, .slice none 0 0]) ?_ 1 _ rfl; (with_reducible repeat (first | apply blk_drewN | apply blk_drew | apply blk_alloc)); refine blk_put (cs := #[.int .i64 0, .int .i64 0, .slice none 0 0]) ?_ 0 _ rfl; (with_reducible repeat (first | apply blk_drewN | apply blk_drew | apply blk_alloc)); exact BK656.out⟩
         have n6_ : Aside0 (Below w.heap.size w (((w192.setCell ⟨gb656, 0, none⟩ (.int .i64 t650)).setCell ⟨gb656, 1, none⟩ (.int .i64 t651)).setCell ⟨gb656, 2, none⟩ (.slice Ao197 t652.length co197))) := ⟨zB⟩
         (try clear HO647)
         (try clear HO654)
         (try clear BK606)
         (try clear BK607)
         (try clear BK649)
         (try clear BK656)
         (try clear HB)
         generalize (((w192.setCell ⟨gb656, 0, none⟩ (.int .i64 t650)).setCell ⟨gb656, 1, none⟩ (.int .i64 t651)).setCell ⟨gb656, 2, none⟩ (.slice Ao197 t652.length co197)) = w198 at n0_ n1_ n2_ n3_ n4_ n5_ n6_ ⊢
         have HO647 := n0_; have HO654 := n1_; have BK606 := n2_; have BK607 := n3_; have BK649 := n4_; have BK656 := n5_; have HB := n6_; clear n0_ n1_ n2_ n3_ n4_ n5_ n6_; replace HO647 := Aside0.mk (Kd.R_drew HO647.out); replace HO654 := Aside0.mk (Kd.R_drew HO654.out); replace BK606 := Aside0.mk (blk_drew BK606.out); replace BK607 := Aside0.mk (blk_drew BK607.out); replace BK649 := Aside0.mk (blk_drew BK649.out); replace BK656 := Aside0.mk (blk_drew BK656.out); replace HB := Aside0.mk (below_drew1 HB.out); 
         refine start_ (n := 18) (S := fun w' => True) (ds := []) zarz28 (by kernel_rfl) rfl rfl trivial (fun hHeld => ?_); refine with_tabW annuitantlaw36_BankBack.tab21 annuitantlaw36_BankBack.bits21 (fun HT_ HW_ => ?_)
         generalize w198.drew = w199 at HO647 HO654 BK606 BK607 BK649 BK656 HB hHeld ⊢
         refine zarp 0 (some 113) zarz29 rfl rfl (any_of HT_.out (by kernel_rfl)) zarq (Or.inl ⟨by rfl, by intro w'; go_simp; with_reducible rfl⟩) (by simp only [Act.put, zar1, zar2, zar3, i64_w, i32_w]; rfl) ?_
         refine zarp 1 (some 114) zarz30 rfl rfl (any_of HT_.out (by kernel_rfl)) zarq (Or.inl ⟨by rfl, by intro w'; go_simp; with_reducible rfl⟩) (by simp only [Act.put, zar1, zar2, zar3, i64_w, i32_w]; rfl) ?_
         refine zarp 2 (some 115) zarz31 rfl rfl (any_of HT_.out (by kernel_rfl)) zarq (Or.inl ⟨by rfl, by intro w'; go_simp; with_reducible rfl⟩) (by simp only [Act.put, zar1, zar2, zar3, i64_w, i32_w]; rfl) ?_
         refine zarp 3 (some 116) zarz32 rfl rfl (any_of HT_.out (by kernel_rfl)) zarq (Or.inr ⟨by rfl, rfl⟩) (by simp only [Act.put, zar1, zar2, zar3, i64_w, i32_w]; rfl) ?_
         refine zarp 4 (some 117) zarz33 rfl rfl (any_of HT_.out (by kernel_rfl)) zarq (Or.inr ⟨by rfl, rfl⟩) (by simp only [Act.put, zar1, zar2, zar3, i64_w, i32_w]; rfl) ?_
         refine zarp 5 (some 118) zarz34 rfl rfl (any_of HT_.out (by kernel_rfl)) zarq (Or.inl ⟨by rfl, by intro w'; go_simp; with_reducible rfl⟩) (by simp only [Act.put, zar1, zar2, zar3, i64_w, i32_w]; rfl) ?_
         refine zarp 6 (some 119) zarz35 rfl rfl (any_of HT_.out (by kernel_rfl)) zarq (Or.inl ⟨by rfl, by intro w'; go_simp; with_reducible rfl⟩) (by simp only [Act.put, zar1, zar2, zar3, i64_w, i32_w]; rfl) ?_
         refine zarp 7 (some 120) zarz36 rfl rfl (any_of HT_.out (by kernel_rfl)) zarq (Or.inr ⟨by rfl, rfl⟩) (by simp only [Act.put, zar1, zar2, zar3, i64_w, i32_w]; rfl) ?_
         refine zarp 8 (some 121) zarz37 rfl rfl (any_of HT_.out (by kernel_rfl)) zarq (Or.inr ⟨by rfl, rfl⟩) (by simp only [Act.put, zar1, zar2, zar3, i64_w, i32_w]; rfl) ?_
         refine zarp 9 (some 122) zarz38 rfl rfl (any_of HT_.out (by kernel_rfl)) zarq (Or.inl ⟨by rfl, by intro w'; go_simp; with_reducible rfl⟩) (by simp only [Act.put, zar1, zar2, zar3, i64_w, i32_w]; rfl) ?_
         refine zarp 10 (some 123) zarz39 rfl rfl (any_of HT_.out (by kernel_rfl)) zarq (Or.inl ⟨by rfl, by intro w'; go_simp; with_reducible rfl⟩) (by simp only [Act.put, zar1, zar2, zar3, i64_w, i32_w]; rfl) ?_
         refine zarp 11 (some 124) zarz40 rfl rfl (any_of HT_.out (by kernel_rfl)) zarq (Or.inr ⟨by rfl, rfl⟩) (by simp only [Act.put, zar1, zar2, zar3, i64_w, i32_w]; rfl) ?_
         refine zarp 12 (some 125) zarz47 rfl rfl (any_of HT_.out (by kernel_rfl)) zarq (Or.inr ⟨by rfl, rfl⟩) (by simp only [Act.put, zar1, zar2, zar3, i64_w, i32_w]; rfl) ?_
         refine zarp 13 (some 126) zarz42 rfl rfl (any_of HT_.out (by kernel_rfl)) zarq (Or.inr ⟨by rfl, rfl⟩) (by simp only [Act.put, zar1, zar2, zar3, i64_w, i32_w]; rfl) ?_
         refine zarp 14 (some 127) zarz43 rfl rfl (any_of HT_.out (by kernel_rfl)) zarq (Or.inr ⟨by rfl, rfl⟩) (by simp only [Act.put, zar1, zar2, zar3, i64_w, i32_w]; rfl) ?_
         refine zarp 15 (some 128) zarz44 rfl rfl (any_of HT_.out (by kernel_rfl)) zarq (Or.inr ⟨by rfl, rfl⟩) (by simp only [Act.put, zar1, zar2, zar3, i64_w, i32_w]; rfl) ?_
         refine zarp 16 (some 129) zarz45 rfl rfl (any_of HT_.out (by kernel_rfl)) zarq (Or.inl ⟨by rfl, by intro w'; go_simp; with_reducible rfl⟩) (by simp only [Act.put, zar1, zar2, zar3, i64_w, i32_w]; rfl) ?_
         refine zarp 17 (some 4) zarz46 rfl rfl (any_of HT_.out (by kernel_rfl)) zarq (Or.inl ⟨by rfl, by intro w'; go_simp; with_reducible rfl⟩) (by simp only [Act.put, zar1, zar2, zar3, i64_w, i32_w]; rfl) ?_
         refine done_ (done_of HT_.out (by kernel_rfl)) ?_
         try go_wp2
         go_ret
         exact ⟨zE, zB⟩
       ·
        replace c105 := Bool.eq_false_iff.mpr c105; subst c105
        have H1 : (some true) = some r := by rw [if_neg (show ¬ (false = true) by decide)] at H; exact H
        clear H; have H := H1; clear H1; obtain rfl := Option.some.inj H; have hnb200 := NB607_606.out; have hnc200 := NB606_607.out; obtain ⟨hcz201_0, hcz201_1, hcz201_2⟩ := zC3 BK607; obtain ⟨hfz201_0, hfz201_1, hfz201_2⟩ := zZ3 BK607
        go_wp2_with (first | ((with_reducible refine gate_callee (f := 28) rfl ?_); refine goesL_ (some 96) rfl rfl Tryz.func28 (by kernel_rfl) rfl #[.agg #[.int .i64 a1_0, .int .i64 a1_1, .slice A1_2 l1_2.length c1_2]] rfl (by (try simp only [List.map_toArray, List.map_cons, List.map_nil]); try rfl) ?_; (with_reducible refine (bank_Right.calls kj16 a1_0 a1_1 _ _ l1_2 false _ ?side1 ?side2 A104.out).mono ?_); (case side1 => repeat (first | exact (Kd.C_below HR1_2.out HB.out) | (with_reducible refine Kd.C_alloc ?_ _) | (with_reducible refine Kd.C_drewN ?_ _) | (with_reducible refine Kd.C_drew ?_))); (case side2 => exact HC1_2.out); rintro e w202 ⟨rfl, hb⟩; refine ⟨_, rfl, ?_⟩; replace BK606 := zKb BK606 hb; replace BK607 := zKb BK607 hb; replace HB := zBs hb; (try clear hb); (try clear hb2); (try clear hk); (try clear hi)))
        go_ret
        exact ⟨zE, zB⟩
 ·
  replace c4 := Bool.eq_false_iff.mpr c4; subst c4
  have H1 : (some false) = some r := by rw [if_neg (show ¬ (false = true) by decide)] at H; exact H
  clear H; have H := H1; clear H1; obtain rfl := Option.some.inj H
  go_enter Tryz.func7, Tryz.ntmps7
  go_wp2_with (first | ((with_reducible refine gate_dst (N := 2) rfl ?_); (try (refine gate_guard (by rfl) ?_; dsimp only)); refine box_event ?hg (N := 2) ?hd (cs := #[.int .i64 a0_0, .int .i64 a0_1, .slice A0_2 l0_2.length c0_2]) (t := 27) ?hr ?_; (case hd => rfl); (case hg => rfl); (case hr => first | (go_simp; done) | (go_simp; rfl)); intro gb606 hg w203 hbox hb; have BK606 := Aside0.mk (hbox); have GW606 := zG (w := w) hg; have GE606 := zG (w := w) hg; replace HB := zBs hb; clear hb hbox hg) | ((with_reducible refine gate_dst (N := 3) rfl ?_); (try (refine gate_guard (by rfl) ?_; dsimp only)); refine box_event ?hg (N := 3) ?hd (cs := #[.int .i64 a1_0, .int .i64 a1_1, .slice A1_2 l1_2.length c1_2]) (t := 30) ?hr ?_; (case hd => rfl); (case hg => rfl); (case hr => first | (go_simp; done) | (go_simp; rfl)); intro gb607 hg w204 hbox hb; have BK607 := Aside0.mk (hbox); have GW607 := zG (w := w) hg; have GE607 := zG (w := w) hg; replace HB := zBs hb; have NB606_607 := zN hg (zK BK606); have NB607_606 := zM hg (zK BK606); replace BK606 := zKb BK606 hb; clear hb hbox hg) | ((with_reducible refine gate_callee (f := 9) rfl ?_); refine goesL_ (some 20) rfl rfl Tryz.func9 (by kernel_rfl) rfl #[] rfl (by (try simp only [List.map_toArray, List.map_cons, List.map_nil]); try rfl) ?_; (with_reducible refine (annuitantlaw36_awake.calls k  false _ ?side1 A3.out).mono ?_); (case side1 => exact GG.below HG.out zB); rintro e w205 ⟨rfl, hb⟩; refine ⟨_, rfl, ?_⟩; replace BK606 := zKb BK606 hb; replace BK607 := zKb BK607 hb; replace HB := zBs hb; (try clear hb); (try clear hb2); (try clear hk); (try clear hi)))
  go_ret
  exact ⟨zE, zB⟩
end Go.Proofs.YtndojpcjhkncgaaGreatDoor.Q
end

section
namespace Go.Proofs.YtndojpcjhkncgaaGreatDoor.Q
open Go Go.RowKit Go.Proofs.YtndojpcjhkncgaaGreatDoorW.PrintWords
set_option linter.unusedVariables false
set_option linter.unusedSimpArgs false
theorem net_suffix (L : List S47) (h : ∀ o ∈ L, 0 ≤ o.f4) : 0 ≤ netSum L := by
  induction L with
  | nil => simp [netSum]
  | cons o L ih =>
    have h1 := ih (fun x hx => h x (List.mem_cons_of_mem _ hx))
    have h2 := h o List.mem_cons_self
    unfold netSum at h1 ⊢
    simp only [List.map_cons, List.sum_cons]
    omega
theorem back_l0 (L : List S47) (n1 d1 n2 d2 : Int) (R : List S49) (hv : validB n1 d1 L = true) (hj : Ev (fun k => annuitantlaw36_BankBack.j2 k n2 d2 R) true) (dd : Nat) : ∀ (i : Nat), i + dd = L.length →
    Ev (fun k => annuitantlaw36_BankBack.l0 k 0 0 360 (netSum (L.drop i)) 0 (i : Int) n1 d1 L n2 d2 R n1 d1 L) true := by
  obtain ⟨_, hl, ho⟩ := valid_orders hv
  have hm := orders_mem L 0 0 ho
  induction dd with
  | zero =>
    intro i hi
    rw [List.drop_eq_nil_of_le (by omega)]
    refine Ev.step (fun k => by rw [annuitantlaw36_BankBack.l0]) (Ev.neg (by omega) (Ev.pos rfl (Ev.pos rfl (Ev.pos rfl (Ev.pos rfl (Ev.pos (show netSum ([] : List S47) = 0 from rfl) ?_))))))
    refine Ev.const (show annuitantlaw36_plain.f n1 d1 L = some _ from rfl) (Ev.const (show annuitantlaw36_plain.f n1 d1 L = some _ from rfl) ?_)
    exact Ev.bind (sameFile_ev n1 d1 L (by omega)) (Ev.pos rfl hj)
  | succ dd ih =>
    intro i hi
    have hlt : i < L.length := by omega
    have hsum : netSum (L.drop i) = L[i].f4 + netSum (L.drop (i + 1)) := by
      rw [drop_get L i hlt]
      unfold netSum
      simp only [List.map_cons, List.sum_cons]
    have h0 := net_suffix (L.drop (i + 1)) (fun o h => (orderB_net (hm o (List.mem_of_mem_drop h))).1)
    have h1 := net_suffix (L.take i) (fun o h => (orderB_net (hm o (List.mem_of_mem_take h))).1)
    have h2 := (orderB_net (hm L[i] (List.getElem_mem hlt))).1
    have h3 := netSum_le L 0 0 (by omega) (by omega) ho
    have h4 : netSum L = netSum (L.take i) + netSum (L.drop i) := by
      have : netSum (L.take i ++ L.drop i) = netSum (L.take i) + netSum (L.drop i) := by unfold netSum; rw [List.map_append, List.sum_append]
      rwa [List.take_append_drop] at this
    refine Ev.step (fun k => by rw [annuitantlaw36_BankBack.l0]) (Ev.pos (by omega) (Ev.pos (by omega) ?_))
    rw [rdT L i hlt, hsum, show L[i].f4 + netSum (L.drop (i + 1)) - L[i].f4 = netSum (L.drop (i + 1)) by omega, w64 (by omega) (by omega), w64 (by omega) (by omega)]
    exact ih (i + 1) (by omega)
theorem back_j2 (n2 d2 : Int) (R : List S49) (hR : (R.length : Int) ≤ 4611686018427387904) : Ev (fun k => annuitantlaw36_BankBack.j2 k n2 d2 R) true := by
  refine Ev.step (fun k => by rw [annuitantlaw36_BankBack.j2]) (Ev.bind (Right_ev n2 d2 R hR) ?_)
  by_cases v : rightB n2 d2 R = true
  · have hw := WriteAnswer_ev n2 d2 R hR
    unfold answerS at hw
    rw [if_pos v] at hw
    obtain ⟨_, _, hl⟩ := right_parts v
    have hlen := answerText_len v
    refine Ev.pos v (Ev.bind hw (Ev.bind (ReadAnswer_ev _ (by omega)) (Ev.bind (Read_ev _ (by omega)) ?_)))
    rw [answerR_text n2 d2 R v, fileR_answer n2 d2 R v]
    refine Ev.pos rfl (Ev.pos rfl (Ev.pos rfl ?_))
    exact Ev.bind (old_ev n2 d2 R (by omega)) (Ev.bind (old_ev n2 d2 R (by omega)) (Ev.bind (sameAnswer_ev n2 d2 (R.map asRef) (by rw [List.length_map]; omega)) (Ev.now true)))
  · exact Ev.neg v (Ev.now true)
theorem back_ev (n1 d1 : Int) (L : List S47) (n2 d2 : Int) (R : List S49) (hL : (L.length : Int) ≤ 4611686018427387904) (hR : (R.length : Int) ≤ 4611686018427387904) : Ev (fun k => annuitantlaw36_BankBack.f k n1 d1 L n2 d2 R) true := by
  have hj : ∀ b, Ev (fun k => annuitantlaw36_BankBack.j0 k b n1 d1 L n2 d2 R) true := by
    intro b
    refine Ev.step (fun k => by rw [annuitantlaw36_BankBack.j0]) ?_
    cases b with
    | true => exact Ev.pos rfl (Ev.now true)
    | false =>
      refine Ev.neg (by simp) (Ev.bind (Valid_ev n1 d1 L hL) ?_)
      by_cases v : validB n1 d1 L = true
      · have hw := Write_ev n1 d1 L hL
        unfold writeS at hw
        rw [if_pos v] at hw
        have ht := (Total_ev n1 d1 L hL).1
        unfold totalS at ht
        rw [if_pos v] at ht
        obtain ⟨_, hl, _⟩ := valid_orders v
        have hlen := fileText_len v
        refine Ev.pos v (Ev.bind hw (Ev.bind (Read_ev _ (by omega)) (Ev.bind (ReadAnswer_ev _ (by omega)) (Ev.bind ht ?_))))
        rw [fileR_text n1 d1 L v, answerR_file n1 d1 L v]
        have := back_l0 L n1 d1 n2 d2 R v (back_j2 n2 d2 R hR) L.length 0 (by omega)
        rw [List.drop_zero] at this
        exact this
      · exact Ev.neg v (back_j2 n2 d2 R hR)
  unfold annuitantlaw36_BankBack.f
  refine Ev.bind awake_ev (Ev.pos rfl ?_)
  by_cases h : (L.length : Int) > 100
  · exact Ev.pos h (hj true)
  · exact Ev.neg h (hj _)
end Go.Proofs.YtndojpcjhkncgaaGreatDoor.Q
end

section
namespace Go.Proofs.YtndojpcjhkncgaaGreatDoor.Q
open Go Go.RowKit Go.Deep Go.Proofs.YtndojpcjhkncgaaGreatDoorW.PrintWords Go.Proofs.YtndojpcjhkncgaaGreatDoorW.PrintLast
set_option linter.unusedVariables false
set_option linter.unusedSimpArgs false
def Opens (P : Program) (t : TypeId) {α : Type} (d : Kd α) (S : α → Prop) : Prop :=
  ∀ {H : Type} {enc : TypeId × Value → H} {W : World} {fuel : Nat} {cs : List Value} {x : DataW H × List MemPlace},
    DataW.trod enc P W 0 (fun _ => true) true fuel t cs = some x → (x.1.weights P t).all (· ≤ reachBytes) = true → ∃ a, d.K W a cs ∧ S a
variable {P : Program} {t : TypeId}
theorem opens_int {k : IntKind} (ht : P.underlying t = some (.int k)) : Opens P t (Kd.int k) (fun n => (Lit.int k n).wf = true) := by
  intro H enc W fuel cs x h hs
  obtain ⟨n, rfl, _, hw⟩ := DataW.trod_int ht h
  exact ⟨n, rfl, hw⟩
theorem opens_imp {α : Type} {d : Kd α} {S S' : α → Prop} (h : Opens P t d S) (hS : ∀ a, S a → S' a) : Opens P t d S' := by
  intro H enc W fuel cs x hx hs
  obtain ⟨a, h1, h2⟩ := h hx hs
  exact ⟨a, h1, hS a h2⟩
theorem opens_iso {α β : Type} {d : Kd α} {S : α → Prop} (f : β → α) (g : α → β) (hfg : ∀ a, f (g a) = a) (h : Opens P t d S) : Opens P t (Kd.iso d f) (fun b => S (f b)) := by
  intro H enc W fuel cs x hx hs
  obtain ⟨a, h1, h2⟩ := h hx hs
  exact ⟨g a, by show d.K W (f (g a)) cs; rw [hfg]; exact h1, by show S (f (g a)); rw [hfg]; exact h2⟩
theorem weightsAll_mem {H : Type} {e : TypeId} : ∀ {ds : List (DataW H)} {d : DataW H}, d ∈ ds → (DataW.weightsAll P e ds).all (· ≤ reachBytes) = true → (d.weights P e).all (· ≤ reachBytes) = true
  | x :: ds, d, hd, h => by
    rw [DataW.weightsAll, List.all_append, Bool.and_eq_true] at h
    rcases List.mem_cons.mp hd with rfl | hd
    · exact h.1
    · exact weightsAll_mem hd h.2
theorem choose_list {α : Type} {p : Nat → α → Prop} : ∀ (n : Nat), (∀ i, i < n → ∃ v, p i v) → ∃ l : List α, l.length = n ∧ ∀ i v, l[i]? = some v → p i v
  | 0, _ => ⟨[], rfl, fun i v h => by simp at h⟩
  | n + 1, h => by
    obtain ⟨l, hl, hp⟩ := choose_list n (fun i hi => h i (by omega))
    obtain ⟨v, hv⟩ := h n (by omega)
    refine ⟨l ++ [v], by simp [hl], fun i u hu => ?_⟩
    by_cases hi : i < n
    · rw [List.getElem?_append_left (by omega)] at hu
      exact hp i u hu
    · have : i < (l ++ [v]).length := (List.getElem?_eq_some_iff.1 hu).1
      simp [hl] at this
      obtain rfl : i = n := by omega
      rw [← hl, List.getElem?_append_right (Nat.le_refl _)] at hu
      simp at hu
      subst hu
      exact hv
theorem opens_slice {α : Type} {d : Kd α} {S : α → Prop} {e q b : Nat} (ht : P.underlying t = some (.slice e)) (hc : P.cellsOf e = d.sz) (hb : P.bytesOf e = b) (h : Opens P e d S) : Opens P t (Kd.slice q d) (fun l => l.length * b ≤ reachBytes ∧ ∀ a ∈ l, S a) := by
  intro H enc W fuel cs x hx hs
  rcases open_slice ht hx with ⟨rfl, rfl⟩ | ⟨a, len, cap, m, n, D, Pl, rfl, _, hl, hm, hmm, rfl, hel⟩
  · exact ⟨[], ⟨none, 0, rfl, Nat.le_refl _, rfl, by show (0 : Nat) ≤ _; omega, fun h => absurd h (Nat.lt_irrefl 0)⟩, by simp⟩
  · simp only [DataW.weights, ht, List.all_cons, List.all_append, Bool.and_eq_true, decide_eq_true_eq, List.length_map, List.length_range] at hs
    obtain ⟨hw, hw1, _⟩ := hs
    rw [if_pos rfl] at hmm
    subst hmm
    obtain ⟨l, hll, hp⟩ := choose_list (α := α) (p := fun i v => S v ∧ ∃ cs', cs'.length = d.sz ∧ d.K W v cs' ∧ ∀ j u, cs'[j]? = some u → W.cell? (a.add (i * d.sz + j)) = some u) len (fun i hi => by
      obtain ⟨cs', h1, h2⟩ := hel i (by omega)
      obtain ⟨v, hv, hS⟩ := h h2 (weightsAll_mem (d := D i) (List.mem_map_of_mem (List.mem_range.2 hi)) hw1)
      obtain ⟨_, hlen, hcell⟩ := World.cells?_some h1
      refine ⟨v, hS, cs', hlen.trans hc, hv, fun j u hj => ?_⟩
      have hjl : j < cs'.length := (List.getElem?_eq_some_iff.1 hj).1
      have := hcell j (by omega)
      rw [hj, hc] at this
      rw [← this, Deep.add_add])
    refine ⟨l, ⟨some a, m, by rw [hll], by rw [hll]; exact hl, rfl, ?_, fun _ => ⟨a, rfl, fun j p hj => ?_⟩⟩, ?_, ?_⟩
    · unfold maxLen at hm; omega
    · obtain ⟨_, cs', h1, h2, h3⟩ := hp j p hj
      exact ⟨cs', h1, h2, h3⟩
    · rw [hb] at hw
      rw [hll]
      exact Nat.le_trans (Nat.mul_le_mul_right _ (by omega)) hw
    · intro v hv
      obtain ⟨i, hi⟩ := List.getElem?_of_mem hv
      exact (hp i v hi).1
def OpensF (P : Program) : List Field → Nat → {α : Type} → Kd α → (α → Prop) → Prop := fun fs o α d S =>
  ∀ {H : Type} {enc : TypeId × Value → H} {W : World} {n : Nat} {cs : List Value} {xs : List (DataW H × List MemPlace)}, xs.length = fs.length → cs.length = o + d.sz →
    (∀ (i : Nat) (f : Field), fs[i]? = some f → DataW.trod enc P W 0 (fun _ => true) true n f.type ((cs.drop f.offset).take (P.cellsOf f.type)) = xs[i]?) →
    (DataW.weightsEach P (fs.map (·.type)) (xs.map (·.1))).all (· ≤ reachBytes) = true → ∃ a, d.K W a (cs.drop o) ∧ S a
theorem opensF_one {α : Type} {d : Kd α} {S : α → Prop} {f : Field} {o : Nat} (h : Opens P f.type d S) (hc : P.cellsOf f.type = d.sz) (ho : f.offset = o) : OpensF P [f] o d S := by
  intro H enc W n cs xs hx hl hf hs
  match xs, hx with
  | [x], _ =>
    have h1 := hf 0 f rfl
    rw [ho, hc, List.take_of_length_le (by simp; omega)] at h1
    simp only [List.map_cons, List.map_nil, DataW.weightsEach, List.append_nil] at hs
    exact h h1 hs
theorem opensF_cons {α β : Type} {d : Kd α} {S : α → Prop} {d' : Kd β} {S' : β → Prop} {f : Field} {fs : List Field} {o : Nat} (h : Opens P f.type d S) (hc : P.cellsOf f.type = d.sz) (ho : f.offset = o) (ht : OpensF P fs (o + d.sz) d' S') :
    OpensF P (f :: fs) o (Kd.pair d d') (fun x => S x.1 ∧ S' x.2) := by
  intro H enc W n cs xs hx hl hf hs
  match xs, hx with
  | x :: xs, hx =>
    have h1 := hf 0 f rfl
    rw [ho, hc] at h1
    simp only [List.map_cons, DataW.weightsEach, List.all_append, Bool.and_eq_true] at hs
    obtain ⟨a, ha, hS⟩ := h h1 hs.1
    have hsz : (Kd.pair d d').sz = d.sz + d'.sz := rfl
    rw [hsz] at hl
    obtain ⟨a', ha', hS'⟩ := ht (xs := xs) (cs := cs) (by simpa using hx) (by omega) (fun i g hg => by simpa using hf (i + 1) g (by simpa using hg)) hs.2
    refine ⟨(a, a'), ⟨(cs.drop o).take d.sz, cs.drop (o + d.sz), ?_, ha, ha'⟩, hS, hS'⟩
    rw [← List.drop_drop, List.take_append_drop]
theorem opens_struct {α : Type} {d : Kd α} {S : α → Prop} {fs : Array Field} (ht : P.underlying t = some (.struct fs)) (hc : P.cellsOf t = d.sz) (h : OpensF P fs.toList 0 d S) : Opens P t d S := by
  intro H enc W fuel cs x hx hs
  obtain ⟨xs, n, _, rfl, hl, hlen, hf⟩ := DataW.trod_struct ht hx
  simp only [DataW.weights, ht] at hs
  have := h (W := W) (n := n) (cs := cs) (xs := xs) (enc := enc) (by simpa using hlen) (by omega) (fun i f hi => hf i f (by simpa using hi)) (by simpa using hs)
  simpa using this
theorem open_arg {H : Type} {enc : TypeId × Value → H} {W : World} {α : Type} {d : Kd α} {S : α → Prop} {v : Value} {x : DataW H} {p : List MemPlace} (h : Opens P t d S) (hx : DataW.Trod enc P W 0 (fun _ => true) true t v x p) (hs : (x.weights P t).all (· ≤ reachBytes) = true) :
    ∃ a, d.K W a v.cells.toList ∧ S a := by
  obtain ⟨fuel, hf⟩ := hx
  exact h hf hs
theorem arg_struct {W : World} {r : Reach} {b : Nat} {v : Value} {fs : Array Field} {cs : List Value} (ht : P.underlying t = some (.struct fs)) (hv : Value.okWide P W r b t v) (h : v.cells.toList = cs) : v = .agg cs.toArray := by
  obtain ⟨c, rfl, _⟩ := WideShapes.okWide_struct ht hv
  rw [← h]
  simp [Value.cells]
theorem arg_lt {H : Type} {enc : TypeId × Value → H} {W : World} {v : Value} {x : DataW H} {p : List MemPlace} (hx : DataW.Trod enc P W 0 (fun _ => true) true t v x p) : ∀ y ∈ p, y.block < W.heap.size := by
  obtain ⟨m, hm⟩ := hx
  exact DataW.trod_lt m _ _ _ hm
theorem weights_at {H : Type} {ts : List TypeId} {ds : List (DataW H)} {j : Nat} {d : DataW H} (h : (DataW.weightsEach P ts ds).all (· ≤ reachBytes) = true) (ht : ts[j]? = some t) (hd : ds[j]? = some d) : (d.weights P t).all (· ≤ reachBytes) = true := by
  rw [List.all_eq_true] at h ⊢
  intro n hn
  exact h n (DataW.weights_mem_each ht hd n hn)
end Go.Proofs.YtndojpcjhkncgaaGreatDoor.Q
end

section
namespace Go.Proofs.YtndojpcjhkncgaaGreatDoor.Q
open Go.ChangeShapes Go.WideShapes Go.ChangeAt Go.RowKit Go.Proofs.YtndojpcjhkncgaaGreatDoorW.PrintWords
set_option linter.unusedVariables false
set_option linter.unusedSimpArgs false
theorem opens_order : Opens Tryz.prog 47 k47 (fun _ => True) :=
  opens_imp (opens_iso (d := Kd.pair (Kd.int .i64) (Kd.pair (Kd.int .i64) (Kd.pair (Kd.int .i64) (Kd.pair (Kd.int .i64) (Kd.int .i64))))) (fun x : S47 => (x.f0, x.f1, x.f2, x.f3, x.f4)) (fun y => ⟨y.1, y.2.1, y.2.2.1, y.2.2.2.1, y.2.2.2.2⟩) (fun _ => rfl)
    (opens_struct Tryz.underlying47 (by kernel_rfl) (opensF_cons (opens_int Tryz.underlying3) (by kernel_rfl) rfl (opensF_cons (opens_int Tryz.underlying3) (by kernel_rfl) rfl (opensF_cons (opens_int Tryz.underlying3) (by kernel_rfl) rfl (opensF_cons (opens_int Tryz.underlying3) (by kernel_rfl) rfl (opensF_one (opens_int Tryz.underlying3) (by kernel_rfl) rfl))))))) (fun _ _ => trivial)
theorem opens_return : Opens Tryz.prog 49 k49 (fun _ => True) :=
  opens_imp (opens_iso (d := Kd.pair (Kd.int .i64) (Kd.int .i64)) (fun x : S49 => (x.f0, x.f1)) (fun y => ⟨y.1, y.2⟩) (fun _ => rfl)
    (opens_struct Tryz.underlying49 (by kernel_rfl) (opensF_cons (opens_int Tryz.underlying3) (by kernel_rfl) rfl (opensF_one (opens_int Tryz.underlying3) (by kernel_rfl) rfl)))) (fun _ _ => trivial)
theorem opens_file : Opens Tryz.prog 27 (Kd.pair (Kd.int .i64) (Kd.pair (Kd.int .i64) (Kd.slice 47 k47))) (fun x => x.2.2.length * 40 ≤ reachBytes) :=
  opens_imp (opens_struct Tryz.underlying27 (by kernel_rfl) (opensF_cons (opens_int Tryz.underlying3) (by kernel_rfl) rfl (opensF_cons (opens_int Tryz.underlying3) (by kernel_rfl) rfl (opensF_one (opens_slice (q := 47) (b := 40) Tryz.underlying25 (by kernel_rfl) (by kernel_rfl) opens_order) (by kernel_rfl) rfl)))) (fun x h => h.2.2.1)
theorem opens_answer : Opens Tryz.prog 30 (Kd.pair (Kd.int .i64) (Kd.pair (Kd.int .i64) (Kd.slice 49 k49))) (fun x => x.2.2.length * 16 ≤ reachBytes) :=
  opens_imp (opens_struct Tryz.underlying30 (by kernel_rfl) (opensF_cons (opens_int Tryz.underlying3) (by kernel_rfl) rfl (opensF_cons (opens_int Tryz.underlying3) (by kernel_rfl) rfl (opensF_one (opens_slice (q := 49) (b := 16) Tryz.underlying28 (by kernel_rfl) (by kernel_rfl) opens_return) (by kernel_rfl) rfl)))) (fun x h => h.2.2.1)
end Go.Proofs.YtndojpcjhkncgaaGreatDoor.Q
end

section
namespace Go.Proofs.YtndojpcjhkncgaaGreatDoor.Q
open Go Go.RowKit
set_option linter.unusedVariables false
set_option linter.unusedSimpArgs false
def laidAll : List (String × DataW Unit) := [("math/bits.deBruijn32tab", Rows.laid_math_bits_deBruijn32tab), ("math/bits.deBruijn64tab", Rows.laid_math_bits_deBruijn64tab), ("internal/strconv.uint64pow10", Rows.laid_internal_strconv_uint64pow10), ("unicode/utf8.acceptRanges", Rows.laid_unicode_utf8_acceptRanges), ("strconv.ErrRange", Rows.laid_strconv_ErrRange), ("strconv.ErrSyntax", Rows.laid_strconv_ErrSyntax), ("unicode/utf8.first", Rows.laid_unicode_utf8_first)]
theorem laid_pow : Rows.laid_internal_strconv_uint64pow10 (H := Unit) = Lib.tabData .u64 Lib.pow10Tab := by kernel_rfl
theorem laid_low : Rows.laid_math_bits_deBruijn64tab (H := Unit) = Lib.tabData .u8 (Lib.deBruijn64tab.map fun (n : Nat) => (n : Int)) := by kernel_rfl
theorem row_err (u : TypeId) (h : Tryz.prog.typeName? 3 u = some "*errors.errorString") : u = 185 :=
  typeName_ptr_named (nm := "errors.errorString") (by kernel_rfl) (by kernel_rfl) (by decide) u h
theorem var_cell {w : World} {n : String} {g : Nat} {v : Value} (hg : Tryz.prog.globalNamed n = some g) (h : w.var? Tryz.prog n = some #[v]) : w.cell? ⟨g, 0, none⟩ = some v := by
  simpa using World.var?_cell hg h 0
theorem gg_of_laid {W : World} (h : laidMetH Tryz.prog laidAll W) (hs : W.ShapedOpen Tryz.prog) : GG W := by
  rw [MakeChecks.laidMetH_plain _ _ _ (by kernel_rfl)] at h
  have h1 := h.tail
  have h2 := h1.tail
  have h4 := h2.tail.tail
  have h5 := h4.tail
  rw [laid_low] at h1
  rw [laid_pow] at h2
  refine ⟨Lib.tabIs_of_head (P := Tryz.prog) (t := 163) (e := 127) (n := 20) named_pow (by kernel_rfl) (by kernel_rfl) (by kernel_rfl) (by kernel_rfl) (by kernel_rfl) h2, Lib.tabIs_of_head (P := Tryz.prog) (t := 189) (e := 5) (n := 64) named_low (by kernel_rfl) (by kernel_rfl) (by kernel_rfl) (by kernel_rfl) (by kernel_rfl) h1, ?_, ?_, ?_⟩
  · obtain ⟨a, s, hv, _⟩ := laid_sentinel h5 (show Tryz.prog.globalNamed "strconv.ErrSyntax" = some 2 by kernel_rfl) (show _ = some 102 by kernel_rfl) Tryz.underlying102 row_err Tryz.underlying185 Tryz.underlying187 rfl rfl Tryz.underlying9 (by kernel_rfl) (by kernel_rfl)
    exact ⟨_, var_cell (by kernel_rfl) hv, .inr ⟨_, _, rfl⟩⟩
  · obtain ⟨a, s, hv, _⟩ := laid_sentinel h4 (show Tryz.prog.globalNamed "strconv.ErrRange" = some 3 by kernel_rfl) (show _ = some 102 by kernel_rfl) Tryz.underlying102 row_err Tryz.underlying185 Tryz.underlying187 rfl rfl Tryz.underlying9 (by kernel_rfl) (by kernel_rfl)
    exact ⟨_, var_cell (by kernel_rfl) hv, .inr ⟨_, _, rfl⟩⟩
  · exact cell_of_shapedOpen_int (g := 1) (t := 3) (zero := #[.int .i64 0]) hs (of_decide_eq_true (by kernel_rfl)) (by kernel_rfl) rfl (by kernel_rfl) (by kernel_rfl) Tryz.underlying3
def firstCells : Array Value := (match Rows.laid_unicode_utf8_first with
  | .agg ds => ds.map fun (d : DataW Unit) => match d with
    | .lit (.int k n) => Value.int k n
    | _ => .nilIface
  | _ => []).toArray
noncomputable def doorZ (os : Os) : World :=
  { World.doorLaid Tryz.prog 72 os with heap := (World.doorLaid Tryz.prog 72 os).heap.modify 4 fun
      | .cells _ t fz => .cells firstCells t fz
      | o => o }
theorem door_met (os : Os) (args : Array Value) : laidMetH Tryz.prog laidAll ((doorZ os).forCall (fun _ _ => 0) ⟨#[], args, []⟩).memory :=
  laidMetH_of_parts3 (fuel := 8) (laidMet_of_run' 8 (by kernel_rfl) (by kernel_rfl)) (by kernel_rfl) (by kernel_rfl)
theorem own : ownKnob Tryz.prog.godebug = none := by kernel_rfl
theorem laidOut : laidOutB Tryz.prog = true := by kernel_rfl
end Go.Proofs.YtndojpcjhkncgaaGreatDoor.Q
end
