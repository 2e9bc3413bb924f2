/- Part 1 of a proof: the texts Q0, SEv, QFbankcounts, QFbankdated, HSq, QFbankright, QFbankValid, QFbankRight, QFref36Valid, QFref36Right, QFbanktotal, QFbankTotal, QFref36sum, QFref36Total, SVal, QFbankMatch1, QFapiOrderintat56, QFbankMatch, QFref36Match, SMatch, GG, HBuild, HDig, Shelf, HHex, HLine, put together by a program of this repo. -/
import Derived.Test.YtndojpcjhkncgaaGreatDoorProg
import Derived.Below
import Derived.Deep.Draws
import Derived.Deep.AppendLies
import Derived.Maps.AppendAt
import Derived.OwnWalk
import Derived.Laws.BytesArg
import Derived.Laws.MakeOwn
import Derived.Laws.OwnMore
import Derived.Deep.OwnRows
import Derived.Tactics
import Derived.Lib.ConvBytes
import Derived.Laws.Slices
import Derived.WalkKit
import Derived.KernelRfl
import Derived.RowKit3
import Derived.Deep.LoopGhost
import Derived.Deep.QuietTactic
import Derived.BigQuiet
import Derived.WideLaws
import Derived.Deep.DeepCutAuto
import Derived.Deep.CutBlock
import Derived.Deep.RegionHeld3
import Derived.Laws.Rows
import Derived.Lib.AppendStr
import Derived.ArgAppend
import Derived.Laws.IdiomCopy
import Derived.OrdersHeld
import Derived.Laws.BitsLemmas
import Derived.RowKit
import Derived.Test.YtndojpcjhkncgaaGreatDoorVMBack1
import Derived.Lib.SmallJoins
import Derived.Lib.ItoaNum
import Derived.Lib.TrailingZeros
import Derived.Lib.Hide
import Derived.Lib.OthersKept
import Derived.Lib.FrozenHead
import Derived.Lib.FrozenHead2
import Derived.Shelf.Strings.BuilderK
import Derived.Lib.LazyBuf
import Derived.Shelf.Strings.Builder1
import Derived.Shelf.Strings.Builder2
import Derived.Shelf.Strings.Trim
import Derived.Shelf.Small.Utf8
import Derived.Shelf.Small.Strs
import Derived.Shelf.Strings.BuilderF
import Derived.Shelf.Strings.Builder2Cap
import Derived.Shelf.Strconv.Atoi
import Derived.Shelf.Strconv.Itoa0
import Derived.Shelf.Strconv.Itoa1
import Derived.Shelf.LaysM
import Derived.Shelf.Strconv.Itoa2
import Derived.Shelf.Strconv.Itoa3
import Derived.Shelf.Strconv.AtoiErrFast
import Derived.Shelf.Strconv.ParseIntEmpty
import Derived.Shelf.Strconv.AtoiFail
import Derived.Shelf.Strconv.Clone
import Derived.Shelf.Strconv.SyntaxError
import Derived.Shelf.LaysC
import Derived.Shelf.Strconv.ToError
import Derived.Shelf.Strconv.AtoiErr
import Derived.Shelf.Strconv.ErrVar
import Derived.Shelf.Strconv.Lower
import Derived.Shelf.Strconv.ParseUint10
import Derived.Shelf.Strconv.ParseUint10Empty
import Derived.Shelf.Strconv.ParseUint10Any
import Derived.Shelf.Strconv.ParseInt10
import Derived.Shelf.Strconv.AtoiLong
import Derived.Shelf.Strconv.AtoiInnerAll
import Derived.Shelf.Strconv.RangeError
import Derived.Shelf.Strconv.ToErrorRange
import Derived.Shelf.Strconv.AtoiAll
import Derived.Shelf.Strconv.ErrVarAll
import Derived.Shelf.Strings.Search1
import Derived.Shelf.Strings.Search2
import Derived.Shelf.Strings.Search3
import Derived.Shelf.Strings.Count
import Derived.Shelf.Strings.Shaped
import Derived.Shelf.Strings.Prefix
import Derived.Shelf.Strings.Split
import Derived.Shelf.Strings.SplitShaped
import Derived.Shelf.Unicode.Decode
import Derived.Shelf.Strings.Runes
import Derived.Shelf.Strings.RuneCount
import Derived.Shelf.Strings.AsciiSet
import Derived.Shelf.Strings.Explode
import Derived.Shelf.Bits.Mul64
import Derived.Shelf.Strings.Repeat
import Derived.Shelf.Unicode.DecodeSlow
import Derived.Shelf.Strings.BuilderCap
import Derived.Outline
import Derived.WalkLawsBesides
import Derived.WalkSpells
import Derived.Laws.BytesString
import Derived.Lib.AppendIntMem
import Derived.Handy

section
namespace Go.Proofs.YtndojpcjhkncgaaGreatDoor.Q
open Go.RowKit Go.Proofs.YtndojpcjhkncgaaGreatDoorW.PrintWords Go.Proofs.YtndojpcjhkncgaaGreatDoorW.PrintLast Go.Proofs.YtndojpcjhkncgaaGreatDoorW.PrintMore
attribute [local go_sem] max2_int min2_int max_two min_two max_three min_three max_four min_four   -- for this text's walks alone
set_option linter.unusedVariables false
set_option linter.unusedSimpArgs false
def errW : Option Int → Value
  | none => .nilIface
  | some c => .iface 155 (.int .i64 c)
theorem errW_none : errW none = .nilIface := rfl
theorem errW_some (c : Int) : errW (some c) = .iface 155 (.int .i64 c) := rfl
theorem info47 : (Tryz.prog.info? 47).map (fun i => (i.zero, i.size, i.bytes)) = some (some (.agg #[(.int .i64 0), (.int .i64 0), (.int .i64 0), (.int .i64 0), (.int .i64 0)]), 5, 40) := by kernel_rfl
theorem info49 : (Tryz.prog.info? 49).map (fun i => (i.zero, i.size, i.bytes)) = some (some (.agg #[(.int .i64 0), (.int .i64 0)]), 2, 16) := by kernel_rfl
theorem info78 : (Tryz.prog.info? 78).map (fun i => (i.zero, i.size, i.bytes)) = some (some (.agg #[(.int .i64 0), (.int .i64 0)]), 2, 16) := by kernel_rfl
structure S47 where
  f0 : Int
  f1 : Int
  f2 : Int
  f3 : Int
  f4 : Int
def z47 : S47 := ⟨(0 : Int), (0 : Int), (0 : Int), (0 : Int), (0 : Int)⟩
def k47 : Kd S47 := Kd.iso (Kd.pair (Kd.int .i64) (Kd.pair (Kd.int .i64) (Kd.pair (Kd.int .i64) (Kd.pair (Kd.int .i64) (Kd.int .i64))))) (fun x : S47 => (x.f0, x.f1, x.f2, x.f3, x.f4))
theorem k47_heap : Kd.Heap k47 := Kd.heap_iso _ (Kd.heap_pair (Kd.heap_int .i64) (Kd.heap_pair (Kd.heap_int .i64) (Kd.heap_pair (Kd.heap_int .i64) (Kd.heap_pair (Kd.heap_int .i64) (Kd.heap_int .i64)))))
theorem k47_open {w : World} {x : S47} {cs : List Value} (h : k47.K w x cs) : cs = [.int .i64 x.f0, .int .i64 x.f1, .int .i64 x.f2, .int .i64 x.f3, .int .i64 x.f4] := by
  obtain ⟨_, _, rfl, rfl, ⟨_, _, rfl, rfl, ⟨_, _, rfl, rfl, ⟨_, _, rfl, rfl, rfl⟩⟩⟩⟩ := h
  exact rfl
theorem k47_mkM (w : World) (base : Nat) (ok : Nat → Prop) (x : S47)  : k47.M w base ok x [.int .i64 x.f0, .int .i64 x.f1, .int .i64 x.f2, .int .i64 x.f3, .int .i64 x.f4] := ⟨[.int .i64 x.f0], [.int .i64 x.f1, .int .i64 x.f2, .int .i64 x.f3, .int .i64 x.f4], rfl, rfl, ⟨[.int .i64 x.f1], [.int .i64 x.f2, .int .i64 x.f3, .int .i64 x.f4], rfl, rfl, ⟨[.int .i64 x.f2], [.int .i64 x.f3, .int .i64 x.f4], rfl, rfl, ⟨[.int .i64 x.f3], [.int .i64 x.f4], rfl, rfl, rfl⟩⟩⟩⟩
def rd_T47 (xs : List S47) (i : Int) : S47 := xs.getD i.toNat z47
theorem at_T47 {w : World} {A : Option Addr} {n : Nat} {xs : List S47} (h : Kd.C k47 w A n xs) (i : Int) (h0 : 0 ≤ i) (h1 : i < n) : ∃ ad , A = some ad ∧ w.cell? (ad.add (i.toNat * 5)) = some (.int .i64 (rd_T47 xs i).f0) ∧ w.cell? ⟨(ad.add (i.toNat * 5)).block, (ad.add (i.toNat * 5)).off + 1, none⟩ = some (.int .i64 (rd_T47 xs i).f1) ∧ w.cell? ⟨(ad.add (i.toNat * 5)).block, (ad.add (i.toNat * 5)).off + 2, none⟩ = some (.int .i64 (rd_T47 xs i).f2) ∧ w.cell? ⟨(ad.add (i.toNat * 5)).block, (ad.add (i.toNat * 5)).off + 3, none⟩ = some (.int .i64 (rd_T47 xs i).f3) ∧ w.cell? ⟨(ad.add (i.toNat * 5)).block, (ad.add (i.toNat * 5)).off + 4, none⟩ = some (.int .i64 (rd_T47 xs i).f4) := by
  obtain ⟨ad, c, e, _, hK, hc0⟩ := Kd.C_get h z47 i h0 h1
  have hc : ∀ j u, c[j]? = some u → w.cell? (ad.add (i.toNat * 5 + j)) = some u := hc0
  obtain rfl := k47_open hK
  exact ⟨ad, e, hc 0 _ rfl, by rw [← add_field _ _ 1 (by omega)]; exact hc 1 _ rfl, by rw [← add_field _ _ 2 (by omega)]; exact hc 2 _ rfl, by rw [← add_field _ _ 3 (by omega)]; exact hc 3 _ rfl, by rw [← add_field _ _ 4 (by omega)]; exact hc 4 _ rfl⟩
structure S49 where
  f0 : Int
  f1 : Int
def z49 : S49 := ⟨(0 : Int), (0 : Int)⟩
def k49 : Kd S49 := Kd.iso (Kd.pair (Kd.int .i64) (Kd.int .i64)) (fun x : S49 => (x.f0, x.f1))
theorem k49_open {w : World} {x : S49} {cs : List Value} (h : k49.K w x cs) : cs = [.int .i64 x.f0, .int .i64 x.f1] := by
  obtain ⟨_, _, rfl, rfl, rfl⟩ := h
  exact rfl
theorem k49_mkM (w : World) (base : Nat) (ok : Nat → Prop) (x : S49)  : k49.M w base ok x [.int .i64 x.f0, .int .i64 x.f1] := ⟨[.int .i64 x.f0], [.int .i64 x.f1], rfl, rfl, rfl⟩
def rd_T49 (xs : List S49) (i : Int) : S49 := xs.getD i.toNat z49
theorem at_T49 {w : World} {A : Option Addr} {n : Nat} {xs : List S49} (h : Kd.C k49 w A n xs) (i : Int) (h0 : 0 ≤ i) (h1 : i < n) : ∃ ad , A = some ad ∧ w.cell? (ad.add (i.toNat * 2)) = some (.int .i64 (rd_T49 xs i).f0) ∧ w.cell? ⟨(ad.add (i.toNat * 2)).block, (ad.add (i.toNat * 2)).off + 1, none⟩ = some (.int .i64 (rd_T49 xs i).f1) := by
  obtain ⟨ad, c, e, _, hK, hc0⟩ := Kd.C_get h z49 i h0 h1
  have hc : ∀ j u, c[j]? = some u → w.cell? (ad.add (i.toNat * 2 + j)) = some u := hc0
  obtain rfl := k49_open hK
  exact ⟨ad, e, hc 0 _ rfl, by rw [← add_field _ _ 1 (by omega)]; exact hc 1 _ rfl⟩
structure S78 where
  f0 : Int
  f1 : Int
def z78 : S78 := ⟨(0 : Int), (0 : Int)⟩
def k78 : Kd S78 := Kd.iso (Kd.pair (Kd.int .i64) (Kd.int .i64)) (fun x : S78 => (x.f0, x.f1))
theorem k78_open {w : World} {x : S78} {cs : List Value} (h : k78.K w x cs) : cs = [.int .i64 x.f0, .int .i64 x.f1] := by
  obtain ⟨_, _, rfl, rfl, rfl⟩ := h
  exact rfl
theorem k78_mkM (w : World) (base : Nat) (ok : Nat → Prop) (x : S78)  : k78.M w base ok x [.int .i64 x.f0, .int .i64 x.f1] := ⟨[.int .i64 x.f0], [.int .i64 x.f1], rfl, rfl, rfl⟩
def rd_T78 (xs : List S78) (i : Int) : S78 := xs.getD i.toNat z78
theorem at_T78 {w : World} {A : Option Addr} {n : Nat} {xs : List S78} (h : Kd.C k78 w A n xs) (i : Int) (h0 : 0 ≤ i) (h1 : i < n) : ∃ ad , A = some ad ∧ w.cell? (ad.add (i.toNat * 2)) = some (.int .i64 (rd_T78 xs i).f0) ∧ w.cell? ⟨(ad.add (i.toNat * 2)).block, (ad.add (i.toNat * 2)).off + 1, none⟩ = some (.int .i64 (rd_T78 xs i).f1) := by
  obtain ⟨ad, c, e, _, hK, hc0⟩ := Kd.C_get h z78 i h0 h1
  have hc : ∀ j u, c[j]? = some u → w.cell? (ad.add (i.toNat * 2 + j)) = some u := hc0
  obtain rfl := k78_open hK
  exact ⟨ad, e, hc 0 _ rfl, by rw [← add_field _ _ 1 (by omega)]; exact hc 1 _ rfl⟩
end Go.Proofs.YtndojpcjhkncgaaGreatDoor.Q
end

section
namespace Go.Proofs.YtndojpcjhkncgaaGreatDoor.Q
open Go.RowKit Go.Proofs.YtndojpcjhkncgaaGreatDoorW.PrintWords
set_option linter.unusedVariables false
set_option linter.unusedSimpArgs false
theorem Ev.pos {α : Type} {c : Prop} [Decidable c] {f g : Nat → Option α} {r : α} (h : c) (k : Ev f r) : Ev (fun n => if c then f n else g n) r := Ev.congr (fun n => if_pos h) k
theorem Ev.neg {α : Type} {c : Prop} [Decidable c] {f g : Nat → Option α} {r : α} (h : ¬ c) (k : Ev g r) : Ev (fun n => if c then f n else g n) r := Ev.congr (fun n => if_neg h) k
theorem Ev.ret {α : Type} {a r : α} (h : a = r) : Ev (fun _ => some a) r := by subst h; exact Ev.now a
theorem Ev.eq {α : Type} {g : Nat → Option α} {r s : α} (h : Ev g r) (e : r = s) : Ev g s := e ▸ h
theorem Ev.const {α β : Type} {o : Option α} {f : Nat → α → Option β} {a : α} {r : β} (h : o = some a) (k : Ev (fun n => f n a) r) : Ev (fun n => o.bind (f n)) r := by subst h; exact k
theorem Ev.fix {α : Type} {o : Option α} {a : α} (h : o = some a) : Ev (fun _ => o) a := ⟨0, fun _ _ => h⟩
theorem w64 {n : Int} (h : -9223372036854775808 ≤ n) (h' : n ≤ 9223372036854775807) : wrap64 n = n := IntWalk.wrap64_in n ⟨h, h'⟩
theorem drop_get {α : Type} (L : List α) (i : Nat) (h : i < L.length) : L.drop i = L[i] :: L.drop (i + 1) := List.drop_eq_getElem_cons h
end Go.Proofs.YtndojpcjhkncgaaGreatDoor.Q
end

section
namespace Go.Proofs.YtndojpcjhkncgaaGreatDoor.Q
open Go.RowKit Go.Proofs.YtndojpcjhkncgaaGreatDoorW.PrintWords Go.Proofs.YtndojpcjhkncgaaGreatDoorW.PrintLast Go.Proofs.YtndojpcjhkncgaaGreatDoorW.PrintMore
attribute [local go_sem] max2_int min2_int max_two min_two max_three min_three max_four min_four   -- for this text's walks alone
set_option linter.unusedVariables false
set_option linter.unusedSimpArgs false
def bank_counts.f (a0 : Int) : Option (Bool) := if a0 ≥ 1 then (some (decide (a0 ≤ 1099511627776))) else (some false)
set_option maxHeartbeats 8000000 in
set_option maxRecDepth 100000 in
theorem bank_counts.calls (a0 : Int) (r : Bool) (w : World) (h : bank_counts.f a0 = some r) :
  Calls Tryz.prog 53 #[.int .i64 a0] w fun e w' => e = .returned (.bool r) ∧ Drawn0 w w' := by
 have H : (if a0 ≥ 1 then (some (decide (a0 ≤ 1099511627776))) else (some false)) = some r := h; clear h
 by_cases c2 : a0 ≥ 1
 ·
  rw [if_pos c2] at H
  have c2b0 : decide (1 ≤ a0) = true := decide_eq_true c2; clear c2; obtain rfl := Option.some.inj H
  go_enter Tryz.func53, Tryz.ntmps53
  go_wp2
  go_ret
  exact ⟨by first | rfl | (simp; done) | (simp [*]; done), by repeat (first | exact Drawn0.refl _ | apply Drawn0.step)⟩
 ·
  rw [if_neg c2] at H
  have c2b0 : decide (1 ≤ a0) = false := decide_eq_false c2; clear c2; obtain rfl := Option.some.inj H
  go_enter Tryz.func53, Tryz.ntmps53
  go_wp2
  go_ret
  exact ⟨by first | rfl | (simp; done) | (simp [*]; done), by repeat (first | exact Drawn0.refl _ | apply Drawn0.step)⟩
end Go.Proofs.YtndojpcjhkncgaaGreatDoor.Q
end

section
namespace Go.Proofs.YtndojpcjhkncgaaGreatDoor.Q
open Go.RowKit Go.Proofs.YtndojpcjhkncgaaGreatDoorW.PrintWords Go.Proofs.YtndojpcjhkncgaaGreatDoorW.PrintLast Go.Proofs.YtndojpcjhkncgaaGreatDoorW.PrintMore
attribute [local go_sem] max2_int min2_int max_two min_two max_three min_three max_four min_four   -- for this text's walks alone
set_option linter.unusedVariables false
set_option linter.unusedSimpArgs false
def bank_dated.f (a0 : Int) (a1 : Int) : Option (Bool) := (bank_counts.f a0).bind fun t110 => (if t110 = true then (if a1 ≥ 0 then (some (decide (a1 < 65536))) else (some false)) else (some false))
set_option maxHeartbeats 8000000 in
set_option maxRecDepth 100000 in
theorem bank_dated.calls (a0 : Int) (a1 : Int) (r : Bool) (w : World) (h : bank_dated.f a0 a1 = some r) :
  Calls Tryz.prog 42 #[.int .i64 a0, .int .i64 a1] w fun e w' => e = .returned (.bool r) ∧ Drawn0 w w' := by
 have H : ((bank_counts.f a0).bind fun t110 => (if t110 = true then (if a1 ≥ 0 then (some (decide (a1 < 65536))) else (some false)) else (some false))) = some r := h; clear h; replace H := Option.bind_eq_some_iff.mp H; obtain ⟨t110, A30, H⟩ := H; replace H : (if t110 = true then (if a1 ≥ 0 then (some (decide (a1 < 65536))) else (some false)) else (some false)) = some r := H; have A3 := Aside0.mk A30; clear A30
 by_cases c4 : t110 = true
 ·
  subst c4
  have H1 : (if a1 ≥ 0 then (some (decide (a1 < 65536))) else (some false)) = some r := by rw [if_pos rfl] at H; exact H
  clear H; have H := H1; clear H1
  by_cases c5 : a1 ≥ 0
  ·
   rw [if_pos c5] at H
   have c5b0 : decide (0 ≤ a1) = true := decide_eq_true c5; clear c5; obtain rfl := Option.some.inj H
   go_enter Tryz.func42, Tryz.ntmps42
   go_wp2_with (first | ((with_reducible refine gate_callee (f := 53) rfl ?_); refine goesL_ (some 6) rfl rfl Tryz.func53 (by kernel_rfl) rfl #[.int .i64 a0] rfl (by (try simp only [List.map_toArray, List.map_cons, List.map_nil]); try rfl) ?_; (with_reducible refine (bank_counts.calls a0 true _ A3.out).mono ?_); rintro e w' ⟨rfl, ⟨nd, rfl⟩⟩; refine ⟨_, rfl, ?_⟩))
   go_ret
   exact ⟨by first | rfl | (simp; done) | (simp [*]; done), by repeat (first | exact Drawn0.refl _ | apply Drawn0.step)⟩
  ·
   rw [if_neg c5] at H
   have c5b0 : decide (0 ≤ a1) = false := decide_eq_false c5; clear c5; obtain rfl := Option.some.inj H
   go_enter Tryz.func42, Tryz.ntmps42
   go_wp2_with (first | ((with_reducible refine gate_callee (f := 53) rfl ?_); refine goesL_ (some 6) rfl rfl Tryz.func53 (by kernel_rfl) rfl #[.int .i64 a0] rfl (by (try simp only [List.map_toArray, List.map_cons, List.map_nil]); try rfl) ?_; (with_reducible refine (bank_counts.calls a0 true _ A3.out).mono ?_); rintro e w' ⟨rfl, ⟨nd, rfl⟩⟩; refine ⟨_, rfl, ?_⟩))
   go_ret
   exact ⟨by first | rfl | (simp; done) | (simp [*]; done), by repeat (first | exact Drawn0.refl _ | apply Drawn0.step)⟩
 ·
  replace c4 := Bool.eq_false_iff.mpr c4; subst c4
  have H1 : (some false) = some r := by rw [if_neg (show ¬ (false = true) by decide)] at H; exact H
  clear H; have H := H1; clear H1; obtain rfl := Option.some.inj H
  go_enter Tryz.func42, Tryz.ntmps42
  go_wp2_with (first | ((with_reducible refine gate_callee (f := 53) rfl ?_); refine goesL_ (some 6) rfl rfl Tryz.func53 (by kernel_rfl) rfl #[.int .i64 a0] rfl (by (try simp only [List.map_toArray, List.map_cons, List.map_nil]); try rfl) ?_; (with_reducible refine (bank_counts.calls a0 false _ A3.out).mono ?_); rintro e w' ⟨rfl, ⟨nd, rfl⟩⟩; refine ⟨_, rfl, ?_⟩))
  go_ret
  exact ⟨by first | rfl | (simp; done) | (simp [*]; done), by repeat (first | exact Drawn0.refl _ | apply Drawn0.step)⟩
end Go.Proofs.YtndojpcjhkncgaaGreatDoor.Q
end

section
namespace Go.Proofs.YtndojpcjhkncgaaGreatDoor.Q
open Go Go.RowKit Go.Proofs.YtndojpcjhkncgaaGreatDoorW.PrintWords Go.Proofs.YtndojpcjhkncgaaGreatDoorW.PrintLast Go.Proofs.YtndojpcjhkncgaaGreatDoorW.PrintMore
set_option linter.unusedVariables false
theorem zB {w W : World} (h : Below w.heap.size w W := by repeat (first | (with_reducible first | exact Aside0.out (by assumption) | apply below_alloc | apply pw_below_drewN | apply below_drew1 | refine below_set ?_ (Aside0.out (by assumption))) | exact Aside0.out (by assumption))) : Below w.heap.size w W := h
theorem zBs {w W w2 : World} (hb : Below W.heap.size W w2) (h : Below w.heap.size w W := by repeat (first | (with_reducible first | exact Aside0.out (by assumption) | apply below_alloc | apply pw_below_drewN | apply below_drew1 | refine below_set ?_ (Aside0.out (by assumption))) | exact Aside0.out (by assumption))) : Aside0 (Below w.heap.size w w2) := ⟨below_step h hb⟩
theorem zG {w W : World} {g : Nat} (hg : g = W.heap.size) (h : Below w.heap.size w W := by repeat (first | (with_reducible first | exact Aside0.out (by assumption) | apply below_alloc | apply pw_below_drewN | apply below_drew1 | refine below_set ?_ (Aside0.out (by assumption))) | exact Aside0.out (by assumption))) : Aside0 (w.heap.size ≤ g) := ⟨by rw [hg]; exact below_size h⟩
theorem zK {w W : World} {g : Nat} {o : Obj} (b : Aside0 (w.heap[g]? = some o)) (h : Below w.heap.size w W := by with_reducible repeat (first | exact Below.refl _ _ | apply below_alloc | apply pw_below_drewN | apply below_drew1)) : W.heap[g]? = some o := blk_below b.out h
theorem zKb {w W w2 : World} {g : Nat} {o : Obj} (b : Aside0 (w.heap[g]? = some o)) (hb : Below W.heap.size W w2) (h : Below w.heap.size w W := by with_reducible repeat (first | exact Below.refl _ _ | apply below_alloc | apply pw_below_drewN | apply below_drew1)) : Aside0 (w2.heap[g]? = some o) := ⟨blk_below (blk_below b.out h) hb⟩
theorem zfar {w : World} {g k j : Nat} {t : TypeId} {cs : Array Value} (h : w.heap[g]? = some (.cells cs t (0, 0))) (hp : Aside0 (g ≠ k)) (u : Value) : (w.setCell ⟨k, j, none⟩ u).heap[g]? = some (.cells cs t (0, 0)) := blk_far h hp.out u
theorem zF {w W : World} {g : Nat} {o : Obj} (b : Aside0 (w.heap[g]? = some o)) (h : W.heap[g]? = some o := by (with_reducible repeat (first | apply blk_drewN | apply blk_drew | apply blk_alloc | refine zfar ?_ (by assumption) _)); exact Aside0.out (by assumption)) : W.heap[g]? = some o := h
theorem zN {W : World} {g k : Nat} {o : Obj} (hg : g = W.heap.size) (h : W.heap[k]? = some o) : Aside0 (k ≠ g) := ⟨by rw [hg]; exact Nat.ne_of_lt (blk_lt h)⟩
theorem zM {W : World} {g k : Nat} {o : Obj} (hg : g = W.heap.size) (h : W.heap[k]? = some o) : Aside0 (g ≠ k) := ⟨by rw [hg]; exact Nat.ne_of_gt (blk_lt h)⟩
theorem zL {w W : World} (HB : Aside0 (Below w.heap.size w W)) {a : Addr} {v : Value} (hc : w.cell? a = some v) : W.cell? a = some v := (HB.out.cell (World.block_lt_of_cell? w _ hc)).trans hc
theorem zD {p : Prop} [Decidable p] (h : decide p = true := by first | (with_reducible assumption) | assumption) : p := of_decide_eq_true h
theorem zE {α : Type _} {a b : α} (h : a = b := by first | rfl | (simp [errW_none, errW_some] <;> rfl) | (simp [*, errW_none, errW_some] <;> rfl)) : a = b := h
theorem zR {α : Type} {d : Kd α} {e w W base ok v xs} (b : Aside0 (Kd.R d e w base ok v xs)) (h : Below w.heap.size w W := by with_reducible repeat (first | exact Below.refl _ _ | apply below_alloc | apply pw_below_drewN | apply below_drew1)) : Kd.R d e W base ok v xs := Kd.R_below b.out h
theorem zV {α : Type} {d : Kd α} {e w W base ok v xs} (b : Aside0 (Kd.V d e w base ok v xs)) (h : Below w.heap.size w W := by with_reducible repeat (first | exact Below.refl _ _ | apply below_alloc | apply pw_below_drewN | apply below_drew1)) : Kd.V d e W base ok v xs := Kd.V_below b.out h
theorem zC2 {w : World} {g : Nat} {t : TypeId} {a c : Value} (b : Aside0 (w.heap[g]? = some (.cells #[a, c] t (0, 0)))) : w.cell? ⟨g, 0, none⟩ = some a ∧ w.cell? ⟨g, 1, none⟩ = some c := ⟨(blk_cell b.out 0).trans rfl, (blk_cell b.out 1).trans rfl⟩
theorem zC3 {w : World} {g : Nat} {t : TypeId} {a c d : Value} (b : Aside0 (w.heap[g]? = some (.cells #[a, c, d] t (0, 0)))) : w.cell? ⟨g, 0, none⟩ = some a ∧ w.cell? ⟨g, 1, none⟩ = some c ∧ w.cell? ⟨g, 2, none⟩ = some d := ⟨(blk_cell b.out 0).trans rfl, (blk_cell b.out 1).trans rfl, (blk_cell b.out 2).trans rfl⟩
theorem zC5 {w : World} {g : Nat} {t : TypeId} {a c d e f : Value} (b : Aside0 (w.heap[g]? = some (.cells #[a, c, d, e, f] t (0, 0)))) : w.cell? ⟨g, 0, none⟩ = some a ∧ w.cell? ⟨g, 1, none⟩ = some c ∧ w.cell? ⟨g, 2, none⟩ = some d ∧ w.cell? ⟨g, 3, none⟩ = some e ∧ w.cell? ⟨g, 4, none⟩ = some f := ⟨(blk_cell b.out 0).trans rfl, (blk_cell b.out 1).trans rfl, (blk_cell b.out 2).trans rfl, (blk_cell b.out 3).trans rfl, (blk_cell b.out 4).trans rfl⟩
theorem zZ {w : World} {g : Nat} {t : TypeId} {cs : Array Value} (b : Aside0 (w.heap[g]? = some (.cells cs t (0, 0)))) : ∀ i, w.frozen? ⟨g, i, none⟩ = false := fun i => blk_frozen b.out i
theorem zZ2 {w : World} {g : Nat} {t : TypeId} {cs : Array Value} (b : Aside0 (w.heap[g]? = some (.cells cs t (0, 0)))) : w.frozen? ⟨g, 0, none⟩ = false ∧ w.frozen? ⟨g, 1, none⟩ = false := ⟨zZ b 0, zZ b 1⟩
theorem zZ3 {w : World} {g : Nat} {t : TypeId} {cs : Array Value} (b : Aside0 (w.heap[g]? = some (.cells cs t (0, 0)))) : w.frozen? ⟨g, 0, none⟩ = false ∧ w.frozen? ⟨g, 1, none⟩ = false ∧ w.frozen? ⟨g, 2, none⟩ = false := ⟨zZ b 0, zZ b 1, zZ b 2⟩
theorem zZ5 {w : World} {g : Nat} {t : TypeId} {cs : Array Value} (b : Aside0 (w.heap[g]? = some (.cells cs t (0, 0)))) : w.frozen? ⟨g, 0, none⟩ = false ∧ w.frozen? ⟨g, 1, none⟩ = false ∧ w.frozen? ⟨g, 2, none⟩ = false ∧ w.frozen? ⟨g, 3, none⟩ = false ∧ w.frozen? ⟨g, 4, none⟩ = false := ⟨zZ b 0, zZ b 1, zZ b 2, zZ b 3, zZ b 4⟩
end Go.Proofs.YtndojpcjhkncgaaGreatDoor.Q
end

section
namespace Go.Proofs.YtndojpcjhkncgaaGreatDoor.Q
open Go.RowKit Go.Proofs.YtndojpcjhkncgaaGreatDoorW.PrintWords Go.Proofs.YtndojpcjhkncgaaGreatDoorW.PrintLast Go.Proofs.YtndojpcjhkncgaaGreatDoorW.PrintMore
attribute [local go_sem] max2_int min2_int max_two min_two max_three min_three max_four min_four   -- for this text's walks alone
set_option linter.unusedVariables false
set_option linter.unusedSimpArgs false
def bank_right.f (a0_0 : Int) (a0_1 : Int) (a0_2 : Int) (a0_3 : Int) (a0_4 : Int) : Option (Bool) := (bank_counts.f a0_0).bind fun t112 => (if t112 = true then ((bank_counts.f a0_1).bind fun t113 => (if t113 = true then (if a0_2 ≥ 0 then (if a0_2 ≤ 1099511627776 then (if a0_3 ≥ (-1099511627776) then (if a0_3 ≤ a0_2 then (if a0_4 = (wrap64 (a0_2 - a0_3)) then (some (decide (a0_4 ≤ 1099511627776))) else (some false)) else (some false)) else (some false)) else (some false)) else (some false)) else (some false))) else (some false))
set_option maxHeartbeats 8000000 in
set_option maxRecDepth 100000 in
theorem bank_right.calls (a0_0 : Int) (a0_1 : Int) (a0_2 : Int) (a0_3 : Int) (a0_4 : Int) (r : Bool) (w : World) (h : bank_right.f a0_0 a0_1 a0_2 a0_3 a0_4 = some r) :
  Calls Tryz.prog 43 #[.agg #[.int .i64 a0_0, .int .i64 a0_1, .int .i64 a0_2, .int .i64 a0_3, .int .i64 a0_4]] w fun e w' => e = .returned (.bool r) ∧ Below w.heap.size w w' := by
 have hu47 := Tryz.underlying47; have HB := Aside0.mk (Below.refl w.heap.size w); have H : ((bank_counts.f a0_0).bind fun t112 => (if t112 = true then ((bank_counts.f a0_1).bind fun t113 => (if t113 = true then (if a0_2 ≥ 0 then (if a0_2 ≤ 1099511627776 then (if a0_3 ≥ (-1099511627776) then (if a0_3 ≤ a0_2 then (if a0_4 = (wrap64 (a0_2 - a0_3)) then (some (decide (a0_4 ≤ 1099511627776))) else (some false)) else (some false)) else (some false)) else (some false)) else (some false)) else (some false))) else (some false))) = some r := h; clear h; replace H := Option.bind_eq_some_iff.mp H; obtain ⟨t112, A20, H⟩ := H; replace H : (if t112 = true then ((bank_counts.f a0_1).bind fun t113 => (if t113 = true then (if a0_2 ≥ 0 then (if a0_2 ≤ 1099511627776 then (if a0_3 ≥ (-1099511627776) then (if a0_3 ≤ a0_2 then (if a0_4 = (wrap64 (a0_2 - a0_3)) then (some (decide (a0_4 ≤ 1099511627776))) else (some false)) else (some false)) else (some false)) else (some false)) else (some false)) else (some false))) else (some false)) = some r := H; have A2 := Aside0.mk A20; clear A20
 by_cases c3 : t112 = true
 ·
  subst c3
  have H1 : ((bank_counts.f a0_1).bind fun t113 => (if t113 = true then (if a0_2 ≥ 0 then (if a0_2 ≤ 1099511627776 then (if a0_3 ≥ (-1099511627776) then (if a0_3 ≤ a0_2 then (if a0_4 = (wrap64 (a0_2 - a0_3)) then (some (decide (a0_4 ≤ 1099511627776))) else (some false)) else (some false)) else (some false)) else (some false)) else (some false)) else (some false))) = some r := by rw [if_pos rfl] at H; exact H
  clear H; have H := H1; clear H1; replace H := Option.bind_eq_some_iff.mp H; obtain ⟨t113, A40, H⟩ := H; replace H : (if t113 = true then (if a0_2 ≥ 0 then (if a0_2 ≤ 1099511627776 then (if a0_3 ≥ (-1099511627776) then (if a0_3 ≤ a0_2 then (if a0_4 = (wrap64 (a0_2 - a0_3)) then (some (decide (a0_4 ≤ 1099511627776))) else (some false)) else (some false)) else (some false)) else (some false)) else (some false)) else (some false)) = some r := H; have A4 := Aside0.mk A40; clear A40
  by_cases c5 : t113 = true
  ·
   subst c5
   have H1 : (if a0_2 ≥ 0 then (if a0_2 ≤ 1099511627776 then (if a0_3 ≥ (-1099511627776) then (if a0_3 ≤ a0_2 then (if a0_4 = (wrap64 (a0_2 - a0_3)) then (some (decide (a0_4 ≤ 1099511627776))) else (some false)) else (some false)) else (some false)) else (some false)) else (some false)) = some r := by rw [if_pos rfl] at H; exact H
   clear H; have H := H1; clear H1
   by_cases c6 : a0_2 ≥ 0
   ·
    rw [if_pos c6] at H
    have c6b0 : decide (0 ≤ a0_2) = true := decide_eq_true c6; clear c6
    by_cases c7 : a0_2 ≤ 1099511627776
    ·
     rw [if_pos c7] at H
     have c7b0 : decide (a0_2 ≤ 1099511627776) = true := decide_eq_true c7; clear c7
     by_cases c8 : a0_3 ≥ (-1099511627776)
     ·
      rw [if_pos c8] at H
      have c8b0 : decide ((-1099511627776) ≤ a0_3) = true := decide_eq_true c8; clear c8
      by_cases c9 : a0_3 ≤ a0_2
      ·
       rw [if_pos c9] at H
       have c9b0 : decide (a0_3 ≤ a0_2) = true := decide_eq_true c9; clear c9
       by_cases c10 : a0_4 = (wrap64 (a0_2 - a0_3))
       ·
        rw [if_pos c10] at H
        have c10b0 : (a0_4 == (wrap64 (a0_2 - a0_3))) = true := beq_iff_eq.mpr c10; have c10b1 : (a0_4 != (wrap64 (a0_2 - a0_3))) = false := bne_eq_false_iff_eq.mpr c10; clear c10; obtain rfl := Option.some.inj H
        go_enter Tryz.func43, Tryz.ntmps43
        go_wp2_with (first | ((with_reducible refine gate_dst (N := 1) rfl ?_); refine box_event ?hg (N := 1) ?hd (cs := #[.int .i64 a0_0, .int .i64 a0_1, .int .i64 a0_2, .int .i64 a0_3, .int .i64 a0_4]) (t := 47) ?hr ?_; (case hd => rfl); (case hg => rfl); (case hr => first | (go_simp; done) | (go_simp; rfl)); intro gb111 hg w11 hbox hb; have BK111 := Aside0.mk (hbox); have GW111 := zG (w := w) hg; have GE111 := zG (w := w) hg; replace HB := zBs hb; clear hb hbox hg; obtain ⟨hcz12_0, hcz12_1, hcz12_2, hcz12_3, hcz12_4⟩ := zC5 BK111; obtain ⟨hfz12_0, hfz12_1, hfz12_2, hfz12_3, hfz12_4⟩ := zZ5 BK111) | ((with_reducible refine gate_callee (f := 53) rfl ?_); refine goesL_ (some 5) rfl rfl Tryz.func53 (by kernel_rfl) rfl #[.int .i64 a0_0] rfl (by (try simp only [List.map_toArray, List.map_cons, List.map_nil]); try rfl) ?_; (with_reducible refine (bank_counts.calls a0_0 true _ A2.out).mono ?_); rintro e w' ⟨rfl, ⟨nd, rfl⟩⟩; refine ⟨_, rfl, ?_⟩) | (go_at_call 53; (with_reducible refine (bank_counts.calls a0_1 true _ A4.out).mono ?_); rintro e w' ⟨rfl, ⟨nd, rfl⟩⟩))
        go_ret
        exact ⟨zE, zB⟩
       ·
        rw [if_neg c10] at H
        have c10b0 : (a0_4 == (wrap64 (a0_2 - a0_3))) = false := beq_eq_false_iff_ne.mpr c10; have c10b1 : (a0_4 != (wrap64 (a0_2 - a0_3))) = true := bne_iff_ne.mpr c10; obtain rfl := Option.some.inj H
        go_enter Tryz.func43, Tryz.ntmps43
        go_wp2_with (first | ((with_reducible refine gate_dst (N := 1) rfl ?_); refine box_event ?hg (N := 1) ?hd (cs := #[.int .i64 a0_0, .int .i64 a0_1, .int .i64 a0_2, .int .i64 a0_3, .int .i64 a0_4]) (t := 47) ?hr ?_; (case hd => rfl); (case hg => rfl); (case hr => first | (go_simp; done) | (go_simp; rfl)); intro gb111 hg w13 hbox hb; have BK111 := Aside0.mk (hbox); have GW111 := zG (w := w) hg; have GE111 := zG (w := w) hg; replace HB := zBs hb; clear hb hbox hg; obtain ⟨hcz14_0, hcz14_1, hcz14_2, hcz14_3, hcz14_4⟩ := zC5 BK111; obtain ⟨hfz14_0, hfz14_1, hfz14_2, hfz14_3, hfz14_4⟩ := zZ5 BK111) | ((with_reducible refine gate_callee (f := 53) rfl ?_); refine goesL_ (some 5) rfl rfl Tryz.func53 (by kernel_rfl) rfl #[.int .i64 a0_0] rfl (by (try simp only [List.map_toArray, List.map_cons, List.map_nil]); try rfl) ?_; (with_reducible refine (bank_counts.calls a0_0 true _ A2.out).mono ?_); rintro e w' ⟨rfl, ⟨nd, rfl⟩⟩; refine ⟨_, rfl, ?_⟩) | (go_at_call 53; (with_reducible refine (bank_counts.calls a0_1 true _ A4.out).mono ?_); rintro e w' ⟨rfl, ⟨nd, rfl⟩⟩))
        go_ret
        exact ⟨zE, zB⟩
      ·
       rw [if_neg c9] at H
       have c9b0 : decide (a0_3 ≤ a0_2) = false := decide_eq_false c9; clear c9; obtain rfl := Option.some.inj H
       go_enter Tryz.func43, Tryz.ntmps43
       go_wp2_with (first | ((with_reducible refine gate_dst (N := 1) rfl ?_); refine box_event ?hg (N := 1) ?hd (cs := #[.int .i64 a0_0, .int .i64 a0_1, .int .i64 a0_2, .int .i64 a0_3, .int .i64 a0_4]) (t := 47) ?hr ?_; (case hd => rfl); (case hg => rfl); (case hr => first | (go_simp; done) | (go_simp; rfl)); intro gb111 hg w15 hbox hb; have BK111 := Aside0.mk (hbox); have GW111 := zG (w := w) hg; have GE111 := zG (w := w) hg; replace HB := zBs hb; clear hb hbox hg; obtain ⟨hcz16_0, hcz16_1, hcz16_2, hcz16_3, hcz16_4⟩ := zC5 BK111; obtain ⟨hfz16_0, hfz16_1, hfz16_2, hfz16_3, hfz16_4⟩ := zZ5 BK111) | ((with_reducible refine gate_callee (f := 53) rfl ?_); refine goesL_ (some 5) rfl rfl Tryz.func53 (by kernel_rfl) rfl #[.int .i64 a0_0] rfl (by (try simp only [List.map_toArray, List.map_cons, List.map_nil]); try rfl) ?_; (with_reducible refine (bank_counts.calls a0_0 true _ A2.out).mono ?_); rintro e w' ⟨rfl, ⟨nd, rfl⟩⟩; refine ⟨_, rfl, ?_⟩) | (go_at_call 53; (with_reducible refine (bank_counts.calls a0_1 true _ A4.out).mono ?_); rintro e w' ⟨rfl, ⟨nd, rfl⟩⟩))
       go_ret
       exact ⟨zE, zB⟩
     ·
      rw [if_neg c8] at H
      have c8b0 : decide ((-1099511627776) ≤ a0_3) = false := decide_eq_false c8; clear c8; obtain rfl := Option.some.inj H
      go_enter Tryz.func43, Tryz.ntmps43
      go_wp2_with (first | ((with_reducible refine gate_dst (N := 1) rfl ?_); refine box_event ?hg (N := 1) ?hd (cs := #[.int .i64 a0_0, .int .i64 a0_1, .int .i64 a0_2, .int .i64 a0_3, .int .i64 a0_4]) (t := 47) ?hr ?_; (case hd => rfl); (case hg => rfl); (case hr => first | (go_simp; done) | (go_simp; rfl)); intro gb111 hg w17 hbox hb; have BK111 := Aside0.mk (hbox); have GW111 := zG (w := w) hg; have GE111 := zG (w := w) hg; replace HB := zBs hb; clear hb hbox hg; obtain ⟨hcz18_0, hcz18_1, hcz18_2, hcz18_3, hcz18_4⟩ := zC5 BK111; obtain ⟨hfz18_0, hfz18_1, hfz18_2, hfz18_3, hfz18_4⟩ := zZ5 BK111) | ((with_reducible refine gate_callee (f := 53) rfl ?_); refine goesL_ (some 5) rfl rfl Tryz.func53 (by kernel_rfl) rfl #[.int .i64 a0_0] rfl (by (try simp only [List.map_toArray, List.map_cons, List.map_nil]); try rfl) ?_; (with_reducible refine (bank_counts.calls a0_0 true _ A2.out).mono ?_); rintro e w' ⟨rfl, ⟨nd, rfl⟩⟩; refine ⟨_, rfl, ?_⟩) | (go_at_call 53; (with_reducible refine (bank_counts.calls a0_1 true _ A4.out).mono ?_); rintro e w' ⟨rfl, ⟨nd, rfl⟩⟩))
      go_ret
      exact ⟨zE, zB⟩
    ·
     rw [if_neg c7] at H
     have c7b0 : decide (a0_2 ≤ 1099511627776) = false := decide_eq_false c7; clear c7; obtain rfl := Option.some.inj H
     go_enter Tryz.func43, Tryz.ntmps43
     go_wp2_with (first | ((with_reducible refine gate_dst (N := 1) rfl ?_); refine box_event ?hg (N := 1) ?hd (cs := #[.int .i64 a0_0, .int .i64 a0_1, .int .i64 a0_2, .int .i64 a0_3, .int .i64 a0_4]) (t := 47) ?hr ?_; (case hd => rfl); (case hg => rfl); (case hr => first | (go_simp; done) | (go_simp; rfl)); intro gb111 hg w19 hbox hb; have BK111 := Aside0.mk (hbox); have GW111 := zG (w := w) hg; have GE111 := zG (w := w) hg; replace HB := zBs hb; clear hb hbox hg; obtain ⟨hcz20_0, hcz20_1, hcz20_2, hcz20_3, hcz20_4⟩ := zC5 BK111; obtain ⟨hfz20_0, hfz20_1, hfz20_2, hfz20_3, hfz20_4⟩ := zZ5 BK111) | ((with_reducible refine gate_callee (f := 53) rfl ?_); refine goesL_ (some 5) rfl rfl Tryz.func53 (by kernel_rfl) rfl #[.int .i64 a0_0] rfl (by (try simp only [List.map_toArray, List.map_cons, List.map_nil]); try rfl) ?_; (with_reducible refine (bank_counts.calls a0_0 true _ A2.out).mono ?_); rintro e w' ⟨rfl, ⟨nd, rfl⟩⟩; refine ⟨_, rfl, ?_⟩) | (go_at_call 53; (with_reducible refine (bank_counts.calls a0_1 true _ A4.out).mono ?_); rintro e w' ⟨rfl, ⟨nd, rfl⟩⟩))
     go_ret
     exact ⟨zE, zB⟩
   ·
    rw [if_neg c6] at H
    have c6b0 : decide (0 ≤ a0_2) = false := decide_eq_false c6; clear c6; obtain rfl := Option.some.inj H
    go_enter Tryz.func43, Tryz.ntmps43
    go_wp2_with (first | ((with_reducible refine gate_dst (N := 1) rfl ?_); refine box_event ?hg (N := 1) ?hd (cs := #[.int .i64 a0_0, .int .i64 a0_1, .int .i64 a0_2, .int .i64 a0_3, .int .i64 a0_4]) (t := 47) ?hr ?_; (case hd => rfl); (case hg => rfl); (case hr => first | (go_simp; done) | (go_simp; rfl)); intro gb111 hg w21 hbox hb; have BK111 := Aside0.mk (hbox); have GW111 := zG (w := w) hg; have GE111 := zG (w := w) hg; replace HB := zBs hb; clear hb hbox hg; obtain ⟨hcz22_0, hcz22_1, hcz22_2, hcz22_3, hcz22_4⟩ := zC5 BK111; obtain ⟨hfz22_0, hfz22_1, hfz22_2, hfz22_3, hfz22_4⟩ := zZ5 BK111) | ((with_reducible refine gate_callee (f := 53) rfl ?_); refine goesL_ (some 5) rfl rfl Tryz.func53 (by kernel_rfl) rfl #[.int .i64 a0_0] rfl (by (try simp only [List.map_toArray, List.map_cons, List.map_nil]); try rfl) ?_; (with_reducible refine (bank_counts.calls a0_0 true _ A2.out).mono ?_); rintro e w' ⟨rfl, ⟨nd, rfl⟩⟩; refine ⟨_, rfl, ?_⟩) | (go_at_call 53; (with_reducible refine (bank_counts.calls a0_1 true _ A4.out).mono ?_); rintro e w' ⟨rfl, ⟨nd, rfl⟩⟩))
    go_ret
    exact ⟨zE, zB⟩
  ·
   replace c5 := Bool.eq_false_iff.mpr c5; subst c5
   have H1 : (some false) = some r := by rw [if_neg (show ¬ (false = true) by decide)] at H; exact H
   clear H; have H := H1; clear H1; obtain rfl := Option.some.inj H
   go_enter Tryz.func43, Tryz.ntmps43
   go_wp2_with (first | ((with_reducible refine gate_dst (N := 1) rfl ?_); refine box_event ?hg (N := 1) ?hd (cs := #[.int .i64 a0_0, .int .i64 a0_1, .int .i64 a0_2, .int .i64 a0_3, .int .i64 a0_4]) (t := 47) ?hr ?_; (case hd => rfl); (case hg => rfl); (case hr => first | (go_simp; done) | (go_simp; rfl)); intro gb111 hg w23 hbox hb; have BK111 := Aside0.mk (hbox); have GW111 := zG (w := w) hg; have GE111 := zG (w := w) hg; replace HB := zBs hb; clear hb hbox hg; obtain ⟨hcz24_0, hcz24_1, hcz24_2, hcz24_3, hcz24_4⟩ := zC5 BK111; obtain ⟨hfz24_0, hfz24_1, hfz24_2, hfz24_3, hfz24_4⟩ := zZ5 BK111) | ((with_reducible refine gate_callee (f := 53) rfl ?_); refine goesL_ (some 5) rfl rfl Tryz.func53 (by kernel_rfl) rfl #[.int .i64 a0_0] rfl (by (try simp only [List.map_toArray, List.map_cons, List.map_nil]); try rfl) ?_; (with_reducible refine (bank_counts.calls a0_0 true _ A2.out).mono ?_); rintro e w' ⟨rfl, ⟨nd, rfl⟩⟩; refine ⟨_, rfl, ?_⟩) | (go_at_call 53; (with_reducible refine (bank_counts.calls a0_1 false _ A4.out).mono ?_); rintro e w' ⟨rfl, ⟨nd, rfl⟩⟩))
   go_ret
   exact ⟨zE, zB⟩
 ·
  replace c3 := Bool.eq_false_iff.mpr c3; subst c3
  have H1 : (some false) = some r := by rw [if_neg (show ¬ (false = true) by decide)] at H; exact H
  clear H; have H := H1; clear H1; obtain rfl := Option.some.inj H
  go_enter Tryz.func43, Tryz.ntmps43
  go_wp2_with (first | ((with_reducible refine gate_dst (N := 1) rfl ?_); refine box_event ?hg (N := 1) ?hd (cs := #[.int .i64 a0_0, .int .i64 a0_1, .int .i64 a0_2, .int .i64 a0_3, .int .i64 a0_4]) (t := 47) ?hr ?_; (case hd => rfl); (case hg => rfl); (case hr => first | (go_simp; done) | (go_simp; rfl)); intro gb111 hg w25 hbox hb; have BK111 := Aside0.mk (hbox); have GW111 := zG (w := w) hg; have GE111 := zG (w := w) hg; replace HB := zBs hb; clear hb hbox hg; obtain ⟨hcz26_0, hcz26_1, hcz26_2, hcz26_3, hcz26_4⟩ := zC5 BK111; obtain ⟨hfz26_0, hfz26_1, hfz26_2, hfz26_3, hfz26_4⟩ := zZ5 BK111) | ((with_reducible refine gate_callee (f := 53) rfl ?_); refine goesL_ (some 5) rfl rfl Tryz.func53 (by kernel_rfl) rfl #[.int .i64 a0_0] rfl (by (try simp only [List.map_toArray, List.map_cons, List.map_nil]); try rfl) ?_; (with_reducible refine (bank_counts.calls a0_0 false _ A2.out).mono ?_); rintro e w' ⟨rfl, ⟨nd, rfl⟩⟩; refine ⟨_, rfl, ?_⟩))
  go_ret
  exact ⟨zE, zB⟩
end Go.Proofs.YtndojpcjhkncgaaGreatDoor.Q
end

section
namespace Go.Proofs.YtndojpcjhkncgaaGreatDoor.Q
open Go.RowKit Go.Proofs.YtndojpcjhkncgaaGreatDoorW.PrintWords Go.Proofs.YtndojpcjhkncgaaGreatDoorW.PrintLast Go.Proofs.YtndojpcjhkncgaaGreatDoorW.PrintMore
attribute [local go_sem] max2_int min2_int max_two min_two max_three min_three max_four min_four   -- for this text's walks alone
set_option linter.unusedVariables false
set_option linter.unusedSimpArgs false
mutual
def bank_Valid.j0 : Nat → Bool → Int → Int → List (S47) → Option (Bool)
 | 0, _, _, _, _ => none
 | k + 1, x18, x115000, x115001, x115002 => if x18 = true then (some false) else (bank_Valid.l0 k 0 0 x115002 (x115002.length : Int) 0)
def bank_Valid.l0 : Nat → Int → Int → List (S47) → Int → Int → Option (Bool)
 | 0, _, _, _, _, _ => none
 | k + 1, x3, x4, x20, x21, x22 => if x22 < x21 then (if 0 ≤ x22 then (if x22 < (x20.length : Int) then ((bank_right.f ((rd_T47 x20 x22).f0) ((rd_T47 x20 x22).f1) ((rd_T47 x20 x22).f2) ((rd_T47 x20 x22).f3) ((rd_T47 x20 x22).f4)).bind fun t118 => (if t118 = true then (if ((rd_T47 x20 x22).f0) ≤ x3 then (some false) else (if (wrap64 (x4 + ((rd_T47 x20 x22).f4))) > 1099511627776 then (some false) else (bank_Valid.l0 k ((rd_T47 x20 x22).f0) (wrap64 (x4 + ((rd_T47 x20 x22).f4))) x20 x21 (wrap64 (x22 + 1))))) else (some false))) else (none)) else (none)) else (some true)
end
def bank_Valid.f (k : Nat) (a0_0 : Int) (a0_1 : Int) (l0_2 : List (S47)) : Option (Bool) := (bank_dated.f a0_0 a0_1).bind fun t115 => (if t115 = true then (bank_Valid.j0 k (decide ((l0_2.length : Int) > 1000)) a0_0 a0_1 l0_2) else (bank_Valid.j0 k true a0_0 a0_1 l0_2))
set_option maxHeartbeats 8000000 in
set_option maxRecDepth 100000 in
theorem bank_Valid.calls (k : Nat) (a0_0 : Int) (a0_1 : Int) (A0_2 : Option Addr) (c0_2 : Nat) (l0_2 : List (S47)) (r : Bool) (w : World) (hr0_2 : Kd.C k47 w A0_2 l0_2.length l0_2) (hc0_2 : l0_2.length ≤ c0_2) (h : bank_Valid.f k a0_0 a0_1 l0_2 = some r) :
  Calls Tryz.prog 22 #[.agg #[.int .i64 a0_0, .int .i64 a0_1, .slice A0_2 l0_2.length c0_2]] w fun e w' => e = .returned (.bool r) ∧ Below w.heap.size w w' := by
 have hu27 := Tryz.underlying27; have hu47 := Tryz.underlying47; have HR0_2 := Aside0.mk hr0_2; have HC0_2 := Aside0.mk hc0_2; clear hr0_2 hc0_2; have HB := Aside0.mk (Below.refl w.heap.size w); have H : ((bank_dated.f a0_0 a0_1).bind fun t115 => (if t115 = true then (bank_Valid.j0 k (decide ((l0_2.length : Int) > 1000)) a0_0 a0_1 l0_2) else (bank_Valid.j0 k true a0_0 a0_1 l0_2))) = some r := h; clear h; have HC2 := Aside0.mk H; clear H
 go_enter Tryz.func22, Tryz.ntmps22
 go_upto_region 1 with (first | ((with_reducible refine gate_dst (N := 1) rfl ?_); (try (refine gate_guard (by rfl) ?_; dsimp only)); refine box_event ?hg (N := 1) ?hd (cs := #[.int .i64 a0_0, .int .i64 a0_1, .slice A0_2 l0_2.length c0_2]) (t := 27) ?hr ?_; (case hd => rfl); (case hg => rfl); (case hr => first | (go_simp; done) | (go_simp; rfl)); intro gb114 hg w3 hbox hb; have BK114 := Aside0.mk (hbox); have GW114 := zG (w := w) hg; have GE114 := zG (w := w) hg; replace HB := zBs hb; clear hb hbox hg))
 (try simp only [Act.put, List.setIfInBounds_toArray, List.set_cons_zero, List.set_cons_succ])
 go_cut [18] (fun v18 wc => ∃ (kq : Nat) (x18_1 : Bool), v18 = .bool x18_1 ∧ Aside0 (bank_Valid.j0 kq x18_1 a0_0 a0_1 l0_2 = some r) ∧ Aside0 (kq ≤ k) ∧ Aside0 (wc.heap[gb114]? = some (.cells #[.int .i64 a0_0, .int .i64 a0_1, (.slice A0_2 l0_2.length c0_2)] 27 (0, 0))) ∧ Aside0 (Below w.heap.size w wc))
 case first =>
  have H := HC2.out; clear HC2; replace H := Option.bind_eq_some_iff.mp H; obtain ⟨t115, A40, H⟩ := H; replace H : (if t115 = true then (bank_Valid.j0 k (decide ((l0_2.length : Int) > 1000)) a0_0 a0_1 l0_2) else (bank_Valid.j0 k true a0_0 a0_1 l0_2)) = some r := H; have A4 := Aside0.mk A40; clear A40
  by_cases c5 : t115 = true
  ·
   subst c5
   have H1 : (bank_Valid.j0 k (decide ((l0_2.length : Int) > 1000)) a0_0 a0_1 l0_2) = some r := by rw [if_pos rfl] at H; exact H
   clear H; have H := H1; clear H1; have H' := Aside0.mk H; clear H; obtain ⟨hcz6_0, hcz6_1, hcz6_2⟩ := zC3 BK114; obtain ⟨hfz6_0, hfz6_1, hfz6_2⟩ := zZ3 BK114
   go_wp2_with (first | ((with_reducible refine gate_callee (f := 42) rfl ?_); refine goesL_ (some 11) rfl rfl Tryz.func42 (by kernel_rfl) rfl #[.int .i64 a0_0, .int .i64 a0_1] rfl (by (try simp only [List.map_toArray, List.map_cons, List.map_nil]); try rfl) ?_; (with_reducible refine (bank_dated.calls a0_0 a0_1 true _ A4.out).mono ?_); rintro e w' ⟨rfl, ⟨nd, rfl⟩⟩; refine ⟨_, rfl, ?_⟩))
   go_meet
   case rel => exact ⟨_, (decide ((l0_2.length : Int) > 1000)), (by first | rfl | (simp; done) | (simp [*]; done)), H', ⟨by first | omega | exact Nat.le_refl _⟩, ⟨zK BK114⟩, ⟨zB⟩⟩
  ·
   replace c5 := Bool.eq_false_iff.mpr c5; subst c5
   have H1 : (bank_Valid.j0 k true a0_0 a0_1 l0_2) = some r := by rw [if_neg (show ¬ (false = true) by decide)] at H; exact H
   clear H; have H := H1; clear H1; have H' := Aside0.mk H; clear H; obtain ⟨hcz7_0, hcz7_1, hcz7_2⟩ := zC3 BK114; obtain ⟨hfz7_0, hfz7_1, hfz7_2⟩ := zZ3 BK114
   go_wp2_with (first | ((with_reducible refine gate_callee (f := 42) rfl ?_); refine goesL_ (some 11) rfl rfl Tryz.func42 (by kernel_rfl) rfl #[.int .i64 a0_0, .int .i64 a0_1] rfl (by (try simp only [List.map_toArray, List.map_cons, List.map_nil]); try rfl) ?_; (with_reducible refine (bank_dated.calls a0_0 a0_1 false _ A4.out).mono ?_); rintro e w' ⟨rfl, ⟨nd, rfl⟩⟩; refine ⟨_, rfl, ?_⟩))
   go_meet
   case rel => exact ⟨_, (true), (by first | rfl | (simp; done) | (simp [*]; done)), H', ⟨by first | omega | exact Nat.le_refl _⟩, ⟨zK BK114⟩, ⟨zB⟩⟩
 case rest =>
  clear HC2
  try clear c2
  try clear p2
  try clear c4
  try clear c5
  try clear hcz6_0
  try clear hcz6_1
  try clear hcz6_2
  try clear hcz7_0
  try clear hcz7_1
  try clear hcz7_2
  try clear hfz6_0
  try clear hfz6_1
  try clear hfz6_2
  try clear hfz7_0
  try clear hfz7_1
  try clear hfz7_2
  obtain ⟨kq, x18_1, rfl, HA, HJ1, BK114, HB⟩ := hcut
  cases kq with
  | zero => exact absurd HA.out (by simp [bank_Valid.j0])
  | succ kj1 =>
   have H := HA.out; clear HA
   simp only [bank_Valid.j0] at H
   by_cases c8 : x18_1 = true
   ·
    subst c8
    have H1 : (some false) = some r := by rw [if_pos rfl] at H; exact H
    clear H; have H := H1; clear H1; obtain rfl := Option.some.inj H
    go_wp2
    go_ret
    exact ⟨zE, zB⟩
   ·
    replace c8 := Bool.eq_false_iff.mpr c8; subst c8
    have H1 : (bank_Valid.l0 kj1 0 0 l0_2 (l0_2.length : Int) 0) = some r := by rw [if_neg (show ¬ (false = true) by decide)] at H; exact H
    clear H; have H := H1; clear H1; have H' := Aside0.mk H; clear H; obtain ⟨hcz9_0, hcz9_1, hcz9_2⟩ := zC3 BK114; obtain ⟨hfz9_0, hfz9_1, hfz9_2⟩ := zZ3 BK114
    go_wp2
    go_loopg [3, 4, 22] kj1 (fun kq v3 v4 v22 w' => ∃ (x3_2 : Int) (x4_2 : Int) (x22_2 : Int), v3 = .int .i64 x3_2 ∧ v4 = .int .i64 x4_2 ∧ v22 = .int .i64 x22_2 ∧ Aside0 (bank_Valid.l0 kq x3_2 x4_2 l0_2 (l0_2.length : Int) x22_2 = some r) ∧ Aside0 (kq ≤ kj1) ∧ Aside0 (w'.heap[gb114]? = some (.cells #[.int .i64 a0_0, .int .i64 a0_1, (.slice A0_2 l0_2.length c0_2)] 27 (0, 0))) ∧ Aside0 (Below w.heap.size w w'))
    case atStart => exact ⟨(0), (0), (0), (by first | rfl | (simp; done) | (simp [*]; done)), (by first | rfl | (simp; done) | (simp [*]; done)), (by first | rfl | (simp; done) | (simp [*]; done)), H', ⟨Nat.le_refl _⟩, ⟨zK BK114⟩, ⟨zB⟩⟩
    case round =>
     clear H'
     try clear c2
     try clear p2
     try clear c4
     try clear c5
     try clear c8
     try clear hcz6_0
     try clear hcz6_1
     try clear hcz6_2
     try clear hcz7_0
     try clear hcz7_1
     try clear hcz7_2
     try clear hcz9_0
     try clear hcz9_1
     try clear hcz9_2
     try clear hfz6_0
     try clear hfz6_1
     try clear hfz6_2
     try clear hfz7_0
     try clear hfz7_1
     try clear hfz7_2
     try clear hfz9_0
     try clear hfz9_1
     try clear hfz9_2
     try clear p2
     obtain ⟨x3_2, x4_2, x22_2, rfl, rfl, rfl, HA, HK2, BK114, HB⟩ := hrel
     cases gk with
     | zero => exact absurd HA.out (by simp [bank_Valid.l0])
     | succ k2 =>
      have H := HA.out; clear HA
      simp only [bank_Valid.l0] at H
      by_cases c10 : x22_2 < (l0_2.length : Int)
      ·
       rw [if_pos c10] at H
       have c10b0 : decide (x22_2 < (l0_2.length : Int)) = true := decide_eq_true c10; clear c10
       by_cases c11 : 0 ≤ x22_2
       ·
        rw [if_pos c11] at H
        have c11b0 : decide (0 ≤ x22_2) = true := decide_eq_true c11; clear c11
        by_cases c12 : x22_2 < (l0_2.length : Int)
        ·
         rw [if_pos c12] at H
         have c12b0 : decide (x22_2 < (l0_2.length : Int)) = true := decide_eq_true c12; clear c12; replace H := Option.bind_eq_some_iff.mp H; obtain ⟨t118, A130, H⟩ := H; replace H : (if t118 = true then (if ((rd_T47 l0_2 x22_2).f0) ≤ x3_2 then (some false) else (if (wrap64 (x4_2 + ((rd_T47 l0_2 x22_2).f4))) > 1099511627776 then (some false) else (bank_Valid.l0 k2 ((rd_T47 l0_2 x22_2).f0) (wrap64 (x4_2 + ((rd_T47 l0_2 x22_2).f4))) l0_2 (l0_2.length : Int) (wrap64 (x22_2 + 1))))) else (some false)) = some r := H; have A13 := Aside0.mk A130; clear A130
         by_cases c14 : t118 = true
         ·
          subst c14
          have H1 : (if ((rd_T47 l0_2 x22_2).f0) ≤ x3_2 then (some false) else (if (wrap64 (x4_2 + ((rd_T47 l0_2 x22_2).f4))) > 1099511627776 then (some false) else (bank_Valid.l0 k2 ((rd_T47 l0_2 x22_2).f0) (wrap64 (x4_2 + ((rd_T47 l0_2 x22_2).f4))) l0_2 (l0_2.length : Int) (wrap64 (x22_2 + 1))))) = some r := by rw [if_pos rfl] at H; exact H
          clear H; have H := H1; clear H1
          by_cases c15 : ((rd_T47 l0_2 x22_2).f0) ≤ x3_2
          ·
           rw [if_pos c15] at H
           have c15b0 : decide (((rd_T47 l0_2 x22_2).f0) ≤ x3_2) = true := decide_eq_true c15; clear c15; obtain rfl := Option.some.inj H; have p116 : 0 ≤ (x22_2 : Int) := zD; have q116 : x22_2 < (l0_2.length : Int) := zD; obtain ⟨ad116, e116, hx116_0, hx116_1, hx116_2, hx116_3, hx116_4⟩ := at_T47 HR0_2.out x22_2 p116 q116
           cases e116
           replace hx116_0 := zL HB hx116_0; replace hx116_1 := zL HB hx116_1; replace hx116_2 := zL HB hx116_2; replace hx116_3 := zL HB hx116_3; replace hx116_4 := zL HB hx116_4; replace p116 := eq_true p116; replace q116 := eq_true q116
           go_wp2_with (first | ((with_reducible refine gate_dst (N := 6) rfl ?_); (try (refine gate_guard (by rfl) ?_; dsimp only)); refine box_event ?hg (N := 6) ?hd (cs := #[.int .i64 0, .int .i64 0, .int .i64 0, .int .i64 0, .int .i64 0]) (t := 47) ?hr ?_; (case hd => rfl); (case hg => rfl); (case hr => first | (go_simp; done) | (go_simp; rfl)); intro gb117 hg w16 hbox hb; have BK117 := Aside0.mk (hbox); have GW117 := zG (w := w) hg; have GE117 := zG (w := w) hg; replace HB := zBs hb; have NB114_117 := zN hg (zK BK114); have NB117_114 := zM hg (zK BK114); replace BK114 := zKb BK114 hb; clear hb hbox hg; have hnb17 := NB117_114.out; have hnc17 := NB114_117.out; obtain ⟨hcz18_0, hcz18_1, hcz18_2, hcz18_3, hcz18_4⟩ := zC5 BK117; obtain ⟨hfz18_0, hfz18_1, hfz18_2, hfz18_3, hfz18_4⟩ := zZ5 BK117) | ((with_reducible refine gate_callee (f := 43) rfl ?_); refine goesL_ (some 31) rfl rfl Tryz.func43 (by kernel_rfl) rfl #[.agg #[.int .i64 ((rd_T47 l0_2 x22_2).f0), .int .i64 ((rd_T47 l0_2 x22_2).f1), .int .i64 ((rd_T47 l0_2 x22_2).f2), .int .i64 ((rd_T47 l0_2 x22_2).f3), .int .i64 ((rd_T47 l0_2 x22_2).f4)]] rfl (by (try simp only [List.map_toArray, List.map_cons, List.map_nil]); try rfl) ?_; (with_reducible refine (bank_right.calls ((rd_T47 l0_2 x22_2).f0) ((rd_T47 l0_2 x22_2).f1) ((rd_T47 l0_2 x22_2).f2) ((rd_T47 l0_2 x22_2).f3) ((rd_T47 l0_2 x22_2).f4) true _ A13.out).mono ?_); rintro e w19 ⟨rfl, hb⟩; refine ⟨_, rfl, ?_⟩; replace BK114 := Aside0.mk (blk_below (zF BK114) hb); replace BK117 := Aside0.mk (blk_below (g := gb117) (o := .cells #[.int .i64 ((rd_T47 l0_2 x22_2).f0), .int .i64 ((rd_T47 l0_2 x22_2).f1), .int .i64 ((rd_T47 l0_2 x22_2).f2), .int .i64 ((rd_T47 l0_2 x22_2).f3), .int .i64 ((rd_T47 l0_2 x22_2).f4)] 47 (0, 0)) (by (with_reducible repeat (first | apply blk_drewN | apply blk_drew | apply blk_alloc)); refine blk_put (cs := #[.int .i64 ((rd_T47 l0_2 x22_2).f0), .int .i64 ((rd_T47 l0_2 x22_2).f1), .int .i64 ((rd_T47 l0_2 x22_2).f2), .int .i64 ((rd_T47 l0_2 x22_2).f3), .int .i64 0]) ?_ 4 _ rfl; (with_reducible repeat (first | apply blk_drewN | apply blk_drew | apply blk_alloc)); refine blk_put (cs := #[.int .i64 ((rd_T47 l0_2 x22_2).f0), .int .i64 ((rd_T47 l0_2 x22_2).f1), .int .i64 ((rd_T47 l0_2 x22_2).f2), .int .i64 0, .int .i64 0]) ?_ 3 _ rfl; (with_reducible repeat (first | apply blk_drewN | apply blk_drew | apply blk_alloc)); refine blk_put (cs := #[.int .i64 ((rd_T47 l0_2 x22_2).f0), .int .i64 ((rd_T47 l0_2 x22_2).f1), .int .i64 0, .int .i64 0, .int .i64 0]) ?_ 2 _ rfl; (with_reducible repeat (first | apply blk_drewN | apply blk_drew | apply blk_alloc)); refine blk_put (cs := #[.int .i64 ((rd_T47 l0_2 x22_2).f0), .int .i64 0, .int .i64 0, .int .i64 0, .int .i64 0]) ?_ 1 _ rfl; (with_reducible repeat (first | apply blk_drewN | apply blk_drew | apply blk_alloc)); refine blk_put (cs := #[.int .i64 0, .int .i64 0, .int .i64 0, .int .i64 0, .int .i64 0]) ?_ 0 _ rfl; (with_reducible repeat (first | apply blk_drewN | apply blk_drew | apply blk_alloc)); exact BK117.out) hb); replace HB := zBs hb; (try clear hb); (try clear hb2); (try clear hk); (try clear hi); obtain ⟨hcz20_0, hcz20_1, hcz20_2, hcz20_3, hcz20_4⟩ := zC5 BK117; obtain ⟨hfz20_0, hfz20_1, hfz20_2, hfz20_3, hfz20_4⟩ := zZ5 BK117))
           go_ret
           exact ⟨zE, zB⟩
          ·
           rw [if_neg c15] at H
           have c15b0 : decide (((rd_T47 l0_2 x22_2).f0) ≤ x3_2) = false := decide_eq_false c15; clear c15
           by_cases c21 : (wrap64 (x4_2 + ((rd_T47 l0_2 x22_2).f4))) > 1099511627776
           ·
            rw [if_pos c21] at H
            have c21b0 : decide (1099511627776 < (wrap64 (x4_2 + ((rd_T47 l0_2 x22_2).f4)))) = true := decide_eq_true c21; clear c21; obtain rfl := Option.some.inj H; have p116 : 0 ≤ (x22_2 : Int) := zD; have q116 : x22_2 < (l0_2.length : Int) := zD; obtain ⟨ad116, e116, hx116_0, hx116_1, hx116_2, hx116_3, hx116_4⟩ := at_T47 HR0_2.out x22_2 p116 q116
            cases e116
            replace hx116_0 := zL HB hx116_0; replace hx116_1 := zL HB hx116_1; replace hx116_2 := zL HB hx116_2; replace hx116_3 := zL HB hx116_3; replace hx116_4 := zL HB hx116_4; replace p116 := eq_true p116; replace q116 := eq_true q116
            go_wp2_with (first | ((with_reducible refine gate_dst (N := 6) rfl ?_); (try (refine gate_guard (by rfl) ?_; dsimp only)); refine box_event ?hg (N := 6) ?hd (cs := #[.int .i64 0, .int .i64 0, .int .i64 0, .int .i64 0, .int .i64 0]) (t := 47) ?hr ?_; (case hd => rfl); (case hg => rfl); (case hr => first | (go_simp; done) | (go_simp; rfl)); intro gb117 hg w22 hbox hb; have BK117 := Aside0.mk (hbox); have GW117 := zG (w := w) hg; have GE117 := zG (w := w) hg; replace HB := zBs hb; have NB114_117 := zN hg (zK BK114); have NB117_114 := zM hg (zK BK114); replace BK114 := zKb BK114 hb; clear hb hbox hg; have hnb23 := NB117_114.out; have hnc23 := NB114_117.out; obtain ⟨hcz24_0, hcz24_1, hcz24_2, hcz24_3, hcz24_4⟩ := zC5 BK117; obtain ⟨hfz24_0, hfz24_1, hfz24_2, hfz24_3, hfz24_4⟩ := zZ5 BK117) | ((with_reducible refine gate_callee (f := 43) rfl ?_); refine goesL_ (some 31) rfl rfl Tryz.func43 (by kernel_rfl) rfl #[.agg #[.int .i64 ((rd_T47 l0_2 x22_2).f0), .int .i64 ((rd_T47 l0_2 x22_2).f1), .int .i64 ((rd_T47 l0_2 x22_2).f2), .int .i64 ((rd_T47 l0_2 x22_2).f3), .int .i64 ((rd_T47 l0_2 x22_2).f4)]] rfl (by (try simp only [List.map_toArray, List.map_cons, List.map_nil]); try rfl) ?_; (with_reducible refine (bank_right.calls ((rd_T47 l0_2 x22_2).f0) ((rd_T47 l0_2 x22_2).f1) ((rd_T47 l0_2 x22_2).f2) ((rd_T47 l0_2 x22_2).f3) ((rd_T47 l0_2 x22_2).f4) true _ A13.out).mono ?_); rintro e w25 ⟨rfl, hb⟩; refine ⟨_, rfl, ?_⟩; replace BK114 := Aside0.mk (blk_below (zF BK114) hb); replace BK117 := Aside0.mk (blk_below (g := gb117) (o := .cells #[.int .i64 ((rd_T47 l0_2 x22_2).f0), .int .i64 ((rd_T47 l0_2 x22_2).f1), .int .i64 ((rd_T47 l0_2 x22_2).f2), .int .i64 ((rd_T47 l0_2 x22_2).f3), .int .i64 ((rd_T47 l0_2 x22_2).f4)] 47 (0, 0)) (by (with_reducible repeat (first | apply blk_drewN | apply blk_drew | apply blk_alloc)); refine blk_put (cs := #[.int .i64 ((rd_T47 l0_2 x22_2).f0), .int .i64 ((rd_T47 l0_2 x22_2).f1), .int .i64 ((rd_T47 l0_2 x22_2).f2), .int .i64 ((rd_T47 l0_2 x22_2).f3), .int .i64 0]) ?_ 4 _ rfl; (with_reducible repeat (first | apply blk_drewN | apply blk_drew | apply blk_alloc)); refine blk_put (cs := #[.int .i64 ((rd_T47 l0_2 x22_2).f0), .int .i64 ((rd_T47 l0_2 x22_2).f1), .int .i64 ((rd_T47 l0_2 x22_2).f2), .int .i64 0, .int .i64 0]) ?_ 3 _ rfl; (with_reducible repeat (first | apply blk_drewN | apply blk_drew | apply blk_alloc)); refine blk_put (cs := #[.int .i64 ((rd_T47 l0_2 x22_2).f0), .int .i64 ((rd_T47 l0_2 x22_2).f1), .int .i64 0, .int .i64 0, .int .i64 0]) ?_ 2 _ rfl; (with_reducible repeat (first | apply blk_drewN | apply blk_drew | apply blk_alloc)); refine blk_put (cs := #[.int .i64 ((rd_T47 l0_2 x22_2).f0), .int .i64 0, .int .i64 0, .int .i64 0, .int .i64 0]) ?_ 1 _ rfl; (with_reducible repeat (first | apply blk_drewN | apply blk_drew | apply blk_alloc)); refine blk_put (cs := #[.int .i64 0, .int .i64 0, .int .i64 0, .int .i64 0, .int .i64 0]) ?_ 0 _ rfl; (with_reducible repeat (first | apply blk_drewN | apply blk_drew | apply blk_alloc)); exact BK117.out) hb); replace HB := zBs hb; (try clear hb); (try clear hb2); (try clear hk); (try clear hi); obtain ⟨hcz26_0, hcz26_1, hcz26_2, hcz26_3, hcz26_4⟩ := zC5 BK117; obtain ⟨hfz26_0, hfz26_1, hfz26_2, hfz26_3, hfz26_4⟩ := zZ5 BK117))
            go_ret
            exact ⟨zE, zB⟩
           ·
            rw [if_neg c21] at H
            have c21b0 : decide (1099511627776 < (wrap64 (x4_2 + ((rd_T47 l0_2 x22_2).f4)))) = false := decide_eq_false c21; clear c21; have H' := Aside0.mk H; clear H; have p116 : 0 ≤ (x22_2 : Int) := zD; have q116 : x22_2 < (l0_2.length : Int) := zD; obtain ⟨ad116, e116, hx116_0, hx116_1, hx116_2, hx116_3, hx116_4⟩ := at_T47 HR0_2.out x22_2 p116 q116
            cases e116
            replace hx116_0 := zL HB hx116_0; replace hx116_1 := zL HB hx116_1; replace hx116_2 := zL HB hx116_2; replace hx116_3 := zL HB hx116_3; replace hx116_4 := zL HB hx116_4; replace p116 := eq_true p116; replace q116 := eq_true q116
            go_wp2_with (first | ((with_reducible refine gate_dst (N := 6) rfl ?_); (try (refine gate_guard (by rfl) ?_; dsimp only)); refine box_event ?hg (N := 6) ?hd (cs := #[.int .i64 0, .int .i64 0, .int .i64 0, .int .i64 0, .int .i64 0]) (t := 47) ?hr ?_; (case hd => rfl); (case hg => rfl); (case hr => first | (go_simp; done) | (go_simp; rfl)); intro gb117 hg w27 hbox hb; have BK117 := Aside0.mk (hbox); have GW117 := zG (w := w) hg; have GE117 := zG (w := w) hg; replace HB := zBs hb; have NB114_117 := zN hg (zK BK114); have NB117_114 := zM hg (zK BK114); replace BK114 := zKb BK114 hb; clear hb hbox hg; have hnb28 := NB117_114.out; have hnc28 := NB114_117.out; obtain ⟨hcz29_0, hcz29_1, hcz29_2, hcz29_3, hcz29_4⟩ := zC5 BK117; obtain ⟨hfz29_0, hfz29_1, hfz29_2, hfz29_3, hfz29_4⟩ := zZ5 BK117) | ((with_reducible refine gate_callee (f := 43) rfl ?_); refine goesL_ (some 31) rfl rfl Tryz.func43 (by kernel_rfl) rfl #[.agg #[.int .i64 ((rd_T47 l0_2 x22_2).f0), .int .i64 ((rd_T47 l0_2 x22_2).f1), .int .i64 ((rd_T47 l0_2 x22_2).f2), .int .i64 ((rd_T47 l0_2 x22_2).f3), .int .i64 ((rd_T47 l0_2 x22_2).f4)]] rfl (by (try simp only [List.map_toArray, List.map_cons, List.map_nil]); try rfl) ?_; (with_reducible refine (bank_right.calls ((rd_T47 l0_2 x22_2).f0) ((rd_T47 l0_2 x22_2).f1) ((rd_T47 l0_2 x22_2).f2) ((rd_T47 l0_2 x22_2).f3) ((rd_T47 l0_2 x22_2).f4) true _ A13.out).mono ?_); rintro e w30 ⟨rfl, hb⟩; refine ⟨_, rfl, ?_⟩; replace BK114 := Aside0.mk (blk_below (zF BK114) hb); replace BK117 := Aside0.mk (blk_below (g := gb117) (o := .cells #[.int .i64 ((rd_T47 l0_2 x22_2).f0), .int .i64 ((rd_T47 l0_2 x22_2).f1), .int .i64 ((rd_T47 l0_2 x22_2).f2), .int .i64 ((rd_T47 l0_2 x22_2).f3), .int .i64 ((rd_T47 l0_2 x22_2).f4)] 47 (0, 0)) (by (with_reducible repeat (first | apply blk_drewN | apply blk_drew | apply blk_alloc)); refine blk_put (cs := #[.int .i64 ((rd_T47 l0_2 x22_2).f0), .int .i64 ((rd_T47 l0_2 x22_2).f1), .int .i64 ((rd_T47 l0_2 x22_2).f2), .int .i64 ((rd_T47 l0_2 x22_2).f3), .int .i64 0]) ?_ 4 _ rfl; (with_reducible repeat (first | apply blk_drewN | apply blk_drew | apply blk_alloc)); refine blk_put (cs := #[.int .i64 ((rd_T47 l0_2 x22_2).f0), .int .i64 ((rd_T47 l0_2 x22_2).f1), .int .i64 ((rd_T47 l0_2 x22_2).f2), .int .i64 0, .int .i64 0]) ?_ 3 _ rfl; (with_reducible repeat (first | apply blk_drewN | apply blk_drew | apply blk_alloc)); refine blk_put (cs := #[.int .i64 ((rd_T47 l0_2 x22_2).f0), .int .i64 ((rd_T47 l0_2 x22_2).f1), .int .i64 0, .int .i64 0, .int .i64 0]) ?_ 2 _ rfl; (with_reducible repeat (first | apply blk_drewN | apply blk_drew | apply blk_alloc)); refine blk_put (cs := #[.int .i64 ((rd_T47 l0_2 x22_2).f0), .int .i64 0, .int .i64 0, .int .i64 0, .int .i64 0]) ?_ 1 _ rfl; (with_reducible repeat (first | apply blk_drewN | apply blk_drew | apply blk_alloc)); refine blk_put (cs := #[.int .i64 0, .int .i64 0, .int .i64 0, .int .i64 0, .int .i64 0]) ?_ 0 _ rfl; (with_reducible repeat (first | apply blk_drewN | apply blk_drew | apply blk_alloc)); exact BK117.out) hb); replace HB := zBs hb; (try clear hb); (try clear hb2); (try clear hk); (try clear hi); obtain ⟨hcz31_0, hcz31_1, hcz31_2, hcz31_3, hcz31_4⟩ := zC5 BK117; obtain ⟨hfz31_0, hfz31_1, hfz31_2, hfz31_3, hfz31_4⟩ := zZ5 BK117))
            go_roundg k2
            case measure => have := HJ1.out; have := HK2.out; omega
            case rel => exact ⟨((rd_T47 l0_2 x22_2).f0), (wrap64 (x4_2 + ((rd_T47 l0_2 x22_2).f4))), (wrap64 (x22_2 + 1)), (by first | rfl | (simp; done) | (simp [*]; done)), (by first | rfl | (simp; done) | (simp [*]; done)), (by first | rfl | (simp; done) | (simp [*]; done)), H', ⟨by have := HJ1.out; have := HK2.out; omega⟩, ⟨zK BK114⟩, ⟨zB⟩⟩
         ·
          replace c14 := Bool.eq_false_iff.mpr c14; subst c14
          have H1 : (some false) = some r := by rw [if_neg (show ¬ (false = true) by decide)] at H; exact H
          clear H; have H := H1; clear H1; obtain rfl := Option.some.inj H; have p116 : 0 ≤ (x22_2 : Int) := zD; have q116 : x22_2 < (l0_2.length : Int) := zD; obtain ⟨ad116, e116, hx116_0, hx116_1, hx116_2, hx116_3, hx116_4⟩ := at_T47 HR0_2.out x22_2 p116 q116
          cases e116
          replace hx116_0 := zL HB hx116_0; replace hx116_1 := zL HB hx116_1; replace hx116_2 := zL HB hx116_2; replace hx116_3 := zL HB hx116_3; replace hx116_4 := zL HB hx116_4; replace p116 := eq_true p116; replace q116 := eq_true q116
          go_wp2_with (first | ((with_reducible refine gate_dst (N := 6) rfl ?_); (try (refine gate_guard (by rfl) ?_; dsimp only)); refine box_event ?hg (N := 6) ?hd (cs := #[.int .i64 0, .int .i64 0, .int .i64 0, .int .i64 0, .int .i64 0]) (t := 47) ?hr ?_; (case hd => rfl); (case hg => rfl); (case hr => first | (go_simp; done) | (go_simp; rfl)); intro gb117 hg w32 hbox hb; have BK117 := Aside0.mk (hbox); have GW117 := zG (w := w) hg; have GE117 := zG (w := w) hg; replace HB := zBs hb; have NB114_117 := zN hg (zK BK114); have NB117_114 := zM hg (zK BK114); replace BK114 := zKb BK114 hb; clear hb hbox hg; have hnb33 := NB117_114.out; have hnc33 := NB114_117.out; obtain ⟨hcz34_0, hcz34_1, hcz34_2, hcz34_3, hcz34_4⟩ := zC5 BK117; obtain ⟨hfz34_0, hfz34_1, hfz34_2, hfz34_3, hfz34_4⟩ := zZ5 BK117) | ((with_reducible refine gate_callee (f := 43) rfl ?_); refine goesL_ (some 31) rfl rfl Tryz.func43 (by kernel_rfl) rfl #[.agg #[.int .i64 ((rd_T47 l0_2 x22_2).f0), .int .i64 ((rd_T47 l0_2 x22_2).f1), .int .i64 ((rd_T47 l0_2 x22_2).f2), .int .i64 ((rd_T47 l0_2 x22_2).f3), .int .i64 ((rd_T47 l0_2 x22_2).f4)]] rfl (by (try simp only [List.map_toArray, List.map_cons, List.map_nil]); try rfl) ?_; (with_reducible refine (bank_right.calls ((rd_T47 l0_2 x22_2).f0) ((rd_T47 l0_2 x22_2).f1) ((rd_T47 l0_2 x22_2).f2) ((rd_T47 l0_2 x22_2).f3) ((rd_T47 l0_2 x22_2).f4) false _ A13.out).mono ?_); rintro e w35 ⟨rfl, hb⟩; refine ⟨_, rfl, ?_⟩; replace BK114 := Aside0.mk (blk_below (zF BK114) hb); replace BK117 := Aside0.mk (blk_below (g := gb117) (o := .cells #[.int .i64 ((rd_T47 l0_2 x22_2).f0), .int .i64 ((rd_T47 l0_2 x22_2).f1), .int .i64 ((rd_T47 l0_2 x22_2).f2), .int .i64 ((rd_T47 l0_2 x22_2).f3), .int .i64 ((rd_T47 l0_2 x22_2).f4)] 47 (0, 0)) (by (with_reducible repeat (first | apply blk_drewN | apply blk_drew | apply blk_alloc)); refine blk_put (cs := #[.int .i64 ((rd_T47 l0_2 x22_2).f0), .int .i64 ((rd_T47 l0_2 x22_2).f1), .int .i64 ((rd_T47 l0_2 x22_2).f2), .int .i64 ((rd_T47 l0_2 x22_2).f3), .int .i64 0]) ?_ 4 _ rfl; (with_reducible repeat (first | apply blk_drewN | apply blk_drew | apply blk_alloc)); refine blk_put (cs := #[.int .i64 ((rd_T47 l0_2 x22_2).f0), .int .i64 ((rd_T47 l0_2 x22_2).f1), .int .i64 ((rd_T47 l0_2 x22_2).f2), .int .i64 0, .int .i64 0]) ?_ 3 _ rfl; (with_reducible repeat (first | apply blk_drewN | apply blk_drew | apply blk_alloc)); refine blk_put (cs := #[.int .i64 ((rd_T47 l0_2 x22_2).f0), .int .i64 ((rd_T47 l0_2 x22_2).f1), .int .i64 0, .int .i64 0, .int .i64 0]) ?_ 2 _ rfl; (with_reducible repeat (first | apply blk_drewN | apply blk_drew | apply blk_alloc)); refine blk_put (cs := #[.int .i64 ((rd_T47 l0_2 x22_2).f0), .int .i64 0, .int .i64 0, .int .i64 0, .int .i64 0]) ?_ 1 _ rfl; (with_reducible repeat (first | apply blk_drewN | apply blk_drew | apply blk_alloc)); refine blk_put (cs := #[.int .i64 0, .int .i64 0, .int .i64 0, .int .i64 0, .int .i64 0]) ?_ 0 _ rfl; (with_reducible repeat (first | apply blk_drewN | apply blk_drew | apply blk_alloc)); exact BK117.out) hb); replace HB := zBs hb; (try clear hb); (try clear hb2); (try clear hk); (try clear hi)))
          go_ret
          exact ⟨zE, zB⟩
        ·
         rw [if_neg c12] at H
         exact absurd H (by simp)
       ·
        rw [if_neg c11] at H
        exact absurd H (by simp)
      ·
       rw [if_neg c10] at H
       have c10b0 : decide (x22_2 < (l0_2.length : Int)) = false := decide_eq_false c10; clear c10; obtain rfl := Option.some.inj H
       go_wp2
       go_ret
       exact ⟨zE, zB⟩
end Go.Proofs.YtndojpcjhkncgaaGreatDoor.Q
end

section
namespace Go.Proofs.YtndojpcjhkncgaaGreatDoor.Q
open Go.RowKit Go.Proofs.YtndojpcjhkncgaaGreatDoorW.PrintWords Go.Proofs.YtndojpcjhkncgaaGreatDoorW.PrintLast Go.Proofs.YtndojpcjhkncgaaGreatDoorW.PrintMore
attribute [local go_sem] max2_int min2_int max_two min_two max_three min_three max_four min_four   -- for this text's walks alone
set_option linter.unusedVariables false
set_option linter.unusedSimpArgs false
def bank_Right.l0 : Nat → Int → List (S49) → Int → Int → Int → Int → List (S49) → Option (Bool)
 | 0, _, _, _, _, _, _, _ => none
 | k + 1, x3, x7, x8, x9, x131000, x131001, x131002 => if x9 < x8 then (if 0 ≤ x9 then (if x9 < (x7.length : Int) then (if ((rd_T49 x7 x9).f0) ≤ x3 then (some false) else ((bank_counts.f ((rd_T49 x7 x9).f0)).bind fun t133 => (if t133 = true then (if ((rd_T49 x7 x9).f1) < 1 then (some false) else (if ((rd_T49 x7 x9).f1) > 9 then (some false) else (bank_Right.l0 k ((rd_T49 x7 x9).f0) x7 x8 (wrap64 (x9 + 1)) x131000 x131001 x131002))) else (some false)))) else (none)) else (none)) else ((bank_dated.f x131000 x131001).bind fun t134 => (if t134 = true then (some (decide ((x131002.length : Int) ≤ 1000))) else (some false)))
def bank_Right.f (k : Nat) (a0_0 : Int) (a0_1 : Int) (l0_2 : List (S49)) : Option (Bool) := bank_Right.l0 k 0 l0_2 (l0_2.length : Int) 0 a0_0 a0_1 l0_2
set_option maxHeartbeats 8000000 in
set_option maxRecDepth 100000 in
theorem bank_Right.calls (k : Nat) (a0_0 : Int) (a0_1 : Int) (A0_2 : Option Addr) (c0_2 : Nat) (l0_2 : List (S49)) (r : Bool) (w : World) (hr0_2 : Kd.C k49 w A0_2 l0_2.length l0_2) (hc0_2 : l0_2.length ≤ c0_2) (h : bank_Right.f k a0_0 a0_1 l0_2 = some r) :
  Calls Tryz.prog 28 #[.agg #[.int .i64 a0_0, .int .i64 a0_1, .slice A0_2 l0_2.length c0_2]] w fun e w' => e = .returned (.bool r) ∧ Below w.heap.size w w' := by
 have hu30 := Tryz.underlying30; have hu49 := Tryz.underlying49; have HR0_2 := Aside0.mk hr0_2; have HC0_2 := Aside0.mk hc0_2; clear hr0_2 hc0_2; have HB := Aside0.mk (Below.refl w.heap.size w); have H : (bank_Right.l0 k 0 l0_2 (l0_2.length : Int) 0 a0_0 a0_1 l0_2) = some r := h; clear h; have H' := Aside0.mk H; clear H
 go_enter Tryz.func28, Tryz.ntmps28
 go_wp2_with (first | ((with_reducible refine gate_dst (N := 1) rfl ?_); (try (refine gate_guard (by rfl) ?_; dsimp only)); refine box_event ?hg (N := 1) ?hd (cs := #[.int .i64 a0_0, .int .i64 a0_1, .slice A0_2 l0_2.length c0_2]) (t := 30) ?hr ?_; (case hd => rfl); (case hg => rfl); (case hr => first | (go_simp; done) | (go_simp; rfl)); intro gb130 hg w2 hbox hb; have BK130 := Aside0.mk (hbox); have GW130 := zG (w := w) hg; have GE130 := zG (w := w) hg; replace HB := zBs hb; clear hb hbox hg; obtain ⟨hcz3_0, hcz3_1, hcz3_2⟩ := zC3 BK130; obtain ⟨hfz3_0, hfz3_1, hfz3_2⟩ := zZ3 BK130))
 go_loopg [3, 9] k (fun kq v3 v9 w' => ∃ (x3_1 : Int) (x9_1 : Int), v3 = .int .i64 x3_1 ∧ v9 = .int .i64 x9_1 ∧ Aside0 (bank_Right.l0 kq x3_1 l0_2 (l0_2.length : Int) x9_1 a0_0 a0_1 l0_2 = some r) ∧ Aside0 (kq ≤ k) ∧ Aside0 (w'.heap[gb130]? = some (.cells #[.int .i64 a0_0, .int .i64 a0_1, (.slice A0_2 l0_2.length c0_2)] 30 (0, 0))) ∧ Aside0 (Below w.heap.size w w'))
 case atStart => exact ⟨(0), (0), (by first | rfl | (simp; done) | (simp [*]; done)), (by first | rfl | (simp; done) | (simp [*]; done)), H', ⟨Nat.le_refl _⟩, ⟨zK BK130⟩, ⟨zB⟩⟩
 case round =>
  clear H'
  try clear c2
  try clear p2
  try clear hcz3_0
  try clear hcz3_1
  try clear hcz3_2
  try clear hfz3_0
  try clear hfz3_1
  try clear hfz3_2
  obtain ⟨x3_1, x9_1, rfl, rfl, HA, HK1, BK130, HB⟩ := hrel
  cases gk with
  | zero => exact absurd HA.out (by simp [bank_Right.l0])
  | succ k1 =>
   have H := HA.out; clear HA
   simp only [bank_Right.l0] at H
   by_cases c4 : x9_1 < (l0_2.length : Int)
   ·
    rw [if_pos c4] at H
    have c4b0 : decide (x9_1 < (l0_2.length : Int)) = true := decide_eq_true c4; clear c4
    by_cases c5 : 0 ≤ x9_1
    ·
     rw [if_pos c5] at H
     have c5b0 : decide (0 ≤ x9_1) = true := decide_eq_true c5; clear c5
     by_cases c6 : x9_1 < (l0_2.length : Int)
     ·
      rw [if_pos c6] at H
      have c6b0 : decide (x9_1 < (l0_2.length : Int)) = true := decide_eq_true c6; clear c6
      by_cases c7 : ((rd_T49 l0_2 x9_1).f0) ≤ x3_1
      ·
       rw [if_pos c7] at H
       have c7b0 : decide (((rd_T49 l0_2 x9_1).f0) ≤ x3_1) = true := decide_eq_true c7; clear c7; obtain rfl := Option.some.inj H; have p131 : 0 ≤ (x9_1 : Int) := zD; have q131 : x9_1 < (l0_2.length : Int) := zD; obtain ⟨ad131, e131, hx131_0, hx131_1⟩ := at_T49 HR0_2.out x9_1 p131 q131
       cases e131
       replace hx131_0 := zL HB hx131_0; replace hx131_1 := zL HB hx131_1; replace p131 := eq_true p131; replace q131 := eq_true q131
       go_wp2_with (first | ((with_reducible refine gate_dst (N := 5) rfl ?_); (try (refine gate_guard (by rfl) ?_; dsimp only)); refine box_event ?hg (N := 5) ?hd (cs := #[.int .i64 0, .int .i64 0]) (t := 49) ?hr ?_; (case hd => rfl); (case hg => rfl); (case hr => first | (go_simp; done) | (go_simp; rfl)); intro gb132 hg w8 hbox hb; have BK132 := Aside0.mk (hbox); have GW132 := zG (w := w) hg; have GE132 := zG (w := w) hg; replace HB := zBs hb; have NB130_132 := zN hg (zK BK130); have NB132_130 := zM hg (zK BK130); replace BK130 := zKb BK130 hb; clear hb hbox hg; have hnb9 := NB132_130.out; have hnc9 := NB130_132.out; obtain ⟨hcz10_0, hcz10_1⟩ := zC2 BK132; obtain ⟨hfz10_0, hfz10_1⟩ := zZ2 BK132))
       go_ret
       exact ⟨zE, zB⟩
      ·
       rw [if_neg c7] at H
       have c7b0 : decide (((rd_T49 l0_2 x9_1).f0) ≤ x3_1) = false := decide_eq_false c7; clear c7; replace H := Option.bind_eq_some_iff.mp H; obtain ⟨t133, A110, H⟩ := H; replace H : (if t133 = true then (if ((rd_T49 l0_2 x9_1).f1) < 1 then (some false) else (if ((rd_T49 l0_2 x9_1).f1) > 9 then (some false) else (bank_Right.l0 k1 ((rd_T49 l0_2 x9_1).f0) l0_2 (l0_2.length : Int) (wrap64 (x9_1 + 1)) a0_0 a0_1 l0_2))) else (some false)) = some r := H; have A11 := Aside0.mk A110; clear A110
       by_cases c12 : t133 = true
       ·
        subst c12
        have H1 : (if ((rd_T49 l0_2 x9_1).f1) < 1 then (some false) else (if ((rd_T49 l0_2 x9_1).f1) > 9 then (some false) else (bank_Right.l0 k1 ((rd_T49 l0_2 x9_1).f0) l0_2 (l0_2.length : Int) (wrap64 (x9_1 + 1)) a0_0 a0_1 l0_2))) = some r := by rw [if_pos rfl] at H; exact H
        clear H; have H := H1; clear H1
        by_cases c13 : ((rd_T49 l0_2 x9_1).f1) < 1
        ·
         rw [if_pos c13] at H
         have c13b0 : decide (((rd_T49 l0_2 x9_1).f1) < 1) = true := decide_eq_true c13; clear c13; obtain rfl := Option.some.inj H; have p131 : 0 ≤ (x9_1 : Int) := zD; have q131 : x9_1 < (l0_2.length : Int) := zD; obtain ⟨ad131, e131, hx131_0, hx131_1⟩ := at_T49 HR0_2.out x9_1 p131 q131
         cases e131
         replace hx131_0 := zL HB hx131_0; replace hx131_1 := zL HB hx131_1; replace p131 := eq_true p131; replace q131 := eq_true q131
         go_wp2_with (first | ((with_reducible refine gate_dst (N := 5) rfl ?_); (try (refine gate_guard (by rfl) ?_; dsimp only)); refine box_event ?hg (N := 5) ?hd (cs := #[.int .i64 0, .int .i64 0]) (t := 49) ?hr ?_; (case hd => rfl); (case hg => rfl); (case hr => first | (go_simp; done) | (go_simp; rfl)); intro gb132 hg w14 hbox hb; have BK132 := Aside0.mk (hbox); have GW132 := zG (w := w) hg; have GE132 := zG (w := w) hg; replace HB := zBs hb; have NB130_132 := zN hg (zK BK130); have NB132_130 := zM hg (zK BK130); replace BK130 := zKb BK130 hb; clear hb hbox hg; have hnb15 := NB132_130.out; have hnc15 := NB130_132.out; obtain ⟨hcz16_0, hcz16_1⟩ := zC2 BK132; obtain ⟨hfz16_0, hfz16_1⟩ := zZ2 BK132) | (go_at_call 53; (with_reducible refine (bank_counts.calls ((rd_T49 l0_2 x9_1).f0) true _ A11.out).mono ?_); rintro e w' ⟨rfl, ⟨nd, rfl⟩⟩))
         go_ret
         exact ⟨zE, zB⟩
        ·
         rw [if_neg c13] at H
         have c13b0 : decide (((rd_T49 l0_2 x9_1).f1) < 1) = false := decide_eq_false c13; clear c13
         by_cases c17 : ((rd_T49 l0_2 x9_1).f1) > 9
         ·
          rw [if_pos c17] at H
          have c17b0 : decide (9 < ((rd_T49 l0_2 x9_1).f1)) = true := decide_eq_true c17; clear c17; obtain rfl := Option.some.inj H; have p131 : 0 ≤ (x9_1 : Int) := zD; have q131 : x9_1 < (l0_2.length : Int) := zD; obtain ⟨ad131, e131, hx131_0, hx131_1⟩ := at_T49 HR0_2.out x9_1 p131 q131
          cases e131
          replace hx131_0 := zL HB hx131_0; replace hx131_1 := zL HB hx131_1; replace p131 := eq_true p131; replace q131 := eq_true q131
          go_wp2_with (first | ((with_reducible refine gate_dst (N := 5) rfl ?_); (try (refine gate_guard (by rfl) ?_; dsimp only)); refine box_event ?hg (N := 5) ?hd (cs := #[.int .i64 0, .int .i64 0]) (t := 49) ?hr ?_; (case hd => rfl); (case hg => rfl); (case hr => first | (go_simp; done) | (go_simp; rfl)); intro gb132 hg w18 hbox hb; have BK132 := Aside0.mk (hbox); have GW132 := zG (w := w) hg; have GE132 := zG (w := w) hg; replace HB := zBs hb; have NB130_132 := zN hg (zK BK130); have NB132_130 := zM hg (zK BK130); replace BK130 := zKb BK130 hb; clear hb hbox hg; have hnb19 := NB132_130.out; have hnc19 := NB130_132.out; obtain ⟨hcz20_0, hcz20_1⟩ := zC2 BK132; obtain ⟨hfz20_0, hfz20_1⟩ := zZ2 BK132) | (go_at_call 53; (with_reducible refine (bank_counts.calls ((rd_T49 l0_2 x9_1).f0) true _ A11.out).mono ?_); rintro e w' ⟨rfl, ⟨nd, rfl⟩⟩))
          go_ret
          exact ⟨zE, zB⟩
         ·
          rw [if_neg c17] at H
          have c17b0 : decide (9 < ((rd_T49 l0_2 x9_1).f1)) = false := decide_eq_false c17; clear c17; have H' := Aside0.mk H; clear H; have p131 : 0 ≤ (x9_1 : Int) := zD; have q131 : x9_1 < (l0_2.length : Int) := zD; obtain ⟨ad131, e131, hx131_0, hx131_1⟩ := at_T49 HR0_2.out x9_1 p131 q131
          cases e131
          replace hx131_0 := zL HB hx131_0; replace hx131_1 := zL HB hx131_1; replace p131 := eq_true p131; replace q131 := eq_true q131
          go_wp2_with (first | ((with_reducible refine gate_dst (N := 5) rfl ?_); (try (refine gate_guard (by rfl) ?_; dsimp only)); refine box_event ?hg (N := 5) ?hd (cs := #[.int .i64 0, .int .i64 0]) (t := 49) ?hr ?_; (case hd => rfl); (case hg => rfl); (case hr => first | (go_simp; done) | (go_simp; rfl)); intro gb132 hg w21 hbox hb; have BK132 := Aside0.mk (hbox); have GW132 := zG (w := w) hg; have GE132 := zG (w := w) hg; replace HB := zBs hb; have NB130_132 := zN hg (zK BK130); have NB132_130 := zM hg (zK BK130); replace BK130 := zKb BK130 hb; clear hb hbox hg; have hnb22 := NB132_130.out; have hnc22 := NB130_132.out; obtain ⟨hcz23_0, hcz23_1⟩ := zC2 BK132; obtain ⟨hfz23_0, hfz23_1⟩ := zZ2 BK132) | (go_at_call 53; (with_reducible refine (bank_counts.calls ((rd_T49 l0_2 x9_1).f0) true _ A11.out).mono ?_); rintro e w' ⟨rfl, ⟨nd, rfl⟩⟩))
          go_roundg k1
          case measure => have := HK1.out; omega
          case rel => exact ⟨((rd_T49 l0_2 x9_1).f0), (wrap64 (x9_1 + 1)), (by first | rfl | (simp; done) | (simp [*]; done)), (by first | rfl | (simp; done) | (simp [*]; done)), H', ⟨by have := HK1.out; omega⟩, ⟨zF BK130⟩, ⟨zB⟩⟩
       ·
        replace c12 := Bool.eq_false_iff.mpr c12; subst c12
        have H1 : (some false) = some r := by rw [if_neg (show ¬ (false = true) by decide)] at H; exact H
        clear H; have H := H1; clear H1; obtain rfl := Option.some.inj H; have p131 : 0 ≤ (x9_1 : Int) := zD; have q131 : x9_1 < (l0_2.length : Int) := zD; obtain ⟨ad131, e131, hx131_0, hx131_1⟩ := at_T49 HR0_2.out x9_1 p131 q131
        cases e131
        replace hx131_0 := zL HB hx131_0; replace hx131_1 := zL HB hx131_1; replace p131 := eq_true p131; replace q131 := eq_true q131
        go_wp2_with (first | ((with_reducible refine gate_dst (N := 5) rfl ?_); (try (refine gate_guard (by rfl) ?_; dsimp only)); refine box_event ?hg (N := 5) ?hd (cs := #[.int .i64 0, .int .i64 0]) (t := 49) ?hr ?_; (case hd => rfl); (case hg => rfl); (case hr => first | (go_simp; done) | (go_simp; rfl)); intro gb132 hg w24 hbox hb; have BK132 := Aside0.mk (hbox); have GW132 := zG (w := w) hg; have GE132 := zG (w := w) hg; replace HB := zBs hb; have NB130_132 := zN hg (zK BK130); have NB132_130 := zM hg (zK BK130); replace BK130 := zKb BK130 hb; clear hb hbox hg; have hnb25 := NB132_130.out; have hnc25 := NB130_132.out; obtain ⟨hcz26_0, hcz26_1⟩ := zC2 BK132; obtain ⟨hfz26_0, hfz26_1⟩ := zZ2 BK132) | (go_at_call 53; (with_reducible refine (bank_counts.calls ((rd_T49 l0_2 x9_1).f0) false _ A11.out).mono ?_); rintro e w' ⟨rfl, ⟨nd, rfl⟩⟩))
        go_ret
        exact ⟨zE, zB⟩
     ·
      rw [if_neg c6] at H
      exact absurd H (by simp)
    ·
     rw [if_neg c5] at H
     exact absurd H (by simp)
   ·
    rw [if_neg c4] at H
    have c4b0 : decide (x9_1 < (l0_2.length : Int)) = false := decide_eq_false c4; clear c4; replace H := Option.bind_eq_some_iff.mp H; obtain ⟨t134, A270, H⟩ := H; replace H : (if t134 = true then (some (decide ((l0_2.length : Int) ≤ 1000))) else (some false)) = some r := H; have A27 := Aside0.mk A270; clear A270
    by_cases c28 : t134 = true
    ·
     subst c28
     have H1 : (some (decide ((l0_2.length : Int) ≤ 1000))) = some r := by rw [if_pos rfl] at H; exact H
     clear H; have H := H1; clear H1; obtain rfl := Option.some.inj H; obtain ⟨hcz29_0, hcz29_1, hcz29_2⟩ := zC3 BK130; obtain ⟨hfz29_0, hfz29_1, hfz29_2⟩ := zZ3 BK130
     go_wp2_with (first | ((with_reducible refine gate_callee (f := 42) rfl ?_); refine goesL_ (some 40) rfl rfl Tryz.func42 (by kernel_rfl) rfl #[.int .i64 a0_0, .int .i64 a0_1] rfl (by (try simp only [List.map_toArray, List.map_cons, List.map_nil]); try rfl) ?_; (with_reducible refine (bank_dated.calls a0_0 a0_1 true _ A27.out).mono ?_); rintro e w' ⟨rfl, ⟨nd, rfl⟩⟩; refine ⟨_, rfl, ?_⟩))
     go_ret
     exact ⟨zE, zB⟩
    ·
     replace c28 := Bool.eq_false_iff.mpr c28; subst c28
     have H1 : (some false) = some r := by rw [if_neg (show ¬ (false = true) by decide)] at H; exact H
     clear H; have H := H1; clear H1; obtain rfl := Option.some.inj H; obtain ⟨hcz30_0, hcz30_1, hcz30_2⟩ := zC3 BK130; obtain ⟨hfz30_0, hfz30_1, hfz30_2⟩ := zZ3 BK130
     go_wp2_with (first | ((with_reducible refine gate_callee (f := 42) rfl ?_); refine goesL_ (some 40) rfl rfl Tryz.func42 (by kernel_rfl) rfl #[.int .i64 a0_0, .int .i64 a0_1] rfl (by (try simp only [List.map_toArray, List.map_cons, List.map_nil]); try rfl) ?_; (with_reducible refine (bank_dated.calls a0_0 a0_1 false _ A27.out).mono ?_); rintro e w' ⟨rfl, ⟨nd, rfl⟩⟩; refine ⟨_, rfl, ?_⟩))
     go_ret
     exact ⟨zE, zB⟩
end Go.Proofs.YtndojpcjhkncgaaGreatDoor.Q
end

section
namespace Go.Proofs.YtndojpcjhkncgaaGreatDoor.Q
open Go.RowKit Go.Proofs.YtndojpcjhkncgaaGreatDoorW.PrintWords Go.Proofs.YtndojpcjhkncgaaGreatDoorW.PrintLast Go.Proofs.YtndojpcjhkncgaaGreatDoorW.PrintMore
attribute [local go_sem] max2_int min2_int max_two min_two max_three min_three max_four min_four   -- for this text's walks alone
set_option linter.unusedVariables false
set_option linter.unusedSimpArgs false
mutual
def annuitantref36_Valid.j0 : Nat → Bool → Int → Int → List (S47) → Option (Bool)
 | 0, _, _, _, _ => none
 | k + 1, x29, x224000, x224001, x224002 => if x29 = true then (some false) else (annuitantref36_Valid.l0 k 0 0 x224000 x224001 x224002)
def annuitantref36_Valid.l0 : Nat → Int → Int → Int → Int → List (S47) → Option (Bool)
 | 0, _, _, _, _, _ => none
 | k + 1, x3, x4, x224000, x224001, x224002 => if x4 < (x224002.length : Int) then (if 0 ≤ x4 then (if ((rd_T47 x224002 x4).f0) < 1 then (annuitantref36_Valid.j2 k x3 x4 true x224000 x224001 x224002 ((rd_T47 x224002 x4).f0) ((rd_T47 x224002 x4).f1) ((rd_T47 x224002 x4).f2) ((rd_T47 x224002 x4).f3) ((rd_T47 x224002 x4).f4)) else (if ((rd_T47 x224002 x4).f0) > 1099511627776 then (annuitantref36_Valid.j2 k x3 x4 true x224000 x224001 x224002 ((rd_T47 x224002 x4).f0) ((rd_T47 x224002 x4).f1) ((rd_T47 x224002 x4).f2) ((rd_T47 x224002 x4).f3) ((rd_T47 x224002 x4).f4)) else (if ((rd_T47 x224002 x4).f1) < 1 then (annuitantref36_Valid.j2 k x3 x4 true x224000 x224001 x224002 ((rd_T47 x224002 x4).f0) ((rd_T47 x224002 x4).f1) ((rd_T47 x224002 x4).f2) ((rd_T47 x224002 x4).f3) ((rd_T47 x224002 x4).f4)) else (if ((rd_T47 x224002 x4).f1) > 1099511627776 then (annuitantref36_Valid.j2 k x3 x4 true x224000 x224001 x224002 ((rd_T47 x224002 x4).f0) ((rd_T47 x224002 x4).f1) ((rd_T47 x224002 x4).f2) ((rd_T47 x224002 x4).f3) ((rd_T47 x224002 x4).f4)) else (if ((rd_T47 x224002 x4).f2) < 0 then (annuitantref36_Valid.j2 k x3 x4 true x224000 x224001 x224002 ((rd_T47 x224002 x4).f0) ((rd_T47 x224002 x4).f1) ((rd_T47 x224002 x4).f2) ((rd_T47 x224002 x4).f3) ((rd_T47 x224002 x4).f4)) else (if ((rd_T47 x224002 x4).f2) > 1099511627776 then (annuitantref36_Valid.j2 k x3 x4 true x224000 x224001 x224002 ((rd_T47 x224002 x4).f0) ((rd_T47 x224002 x4).f1) ((rd_T47 x224002 x4).f2) ((rd_T47 x224002 x4).f3) ((rd_T47 x224002 x4).f4)) else (if ((rd_T47 x224002 x4).f3) < (-1099511627776) then (annuitantref36_Valid.j2 k x3 x4 true x224000 x224001 x224002 ((rd_T47 x224002 x4).f0) ((rd_T47 x224002 x4).f1) ((rd_T47 x224002 x4).f2) ((rd_T47 x224002 x4).f3) ((rd_T47 x224002 x4).f4)) else (if ((rd_T47 x224002 x4).f3) > ((rd_T47 x224002 x4).f2) then (annuitantref36_Valid.j2 k x3 x4 true x224000 x224001 x224002 ((rd_T47 x224002 x4).f0) ((rd_T47 x224002 x4).f1) ((rd_T47 x224002 x4).f2) ((rd_T47 x224002 x4).f3) ((rd_T47 x224002 x4).f4)) else (if ((rd_T47 x224002 x4).f4) = (wrap64 (((rd_T47 x224002 x4).f2) - ((rd_T47 x224002 x4).f3))) then (annuitantref36_Valid.j2 k x3 x4 (decide (((rd_T47 x224002 x4).f4) > 1099511627776)) x224000 x224001 x224002 ((rd_T47 x224002 x4).f0) ((rd_T47 x224002 x4).f1) ((rd_T47 x224002 x4).f2) ((rd_T47 x224002 x4).f3) ((rd_T47 x224002 x4).f4)) else (annuitantref36_Valid.j2 k x3 x4 true x224000 x224001 x224002 ((rd_T47 x224002 x4).f0) ((rd_T47 x224002 x4).f1) ((rd_T47 x224002 x4).f2) ((rd_T47 x224002 x4).f3) ((rd_T47 x224002 x4).f4))))))))))) else (none)) else (some true)
def annuitantref36_Valid.j2 : Nat → Int → Int → Bool → Int → Int → List (S47) → Int → Int → Int → Int → Int → Option (Bool)
 | 0, _, _, _, _, _, _, _, _, _, _, _ => none
 | k + 1, x3, x4, x96, x224000, x224001, x224002, x226000, x226001, x226002, x226003, x226004 => if x96 = true then (some false) else (if (wrap64 (x3 + x226004)) > 1099511627776 then (some false) else (if x4 > 0 then (if 0 ≤ (wrap64 (x4 - 1)) then (if (wrap64 (x4 - 1)) < (x224002.length : Int) then (if x226000 ≤ ((rd_T47 x224002 (wrap64 (x4 - 1))).f0) then (some false) else (annuitantref36_Valid.l0 k (wrap64 (x3 + x226004)) (wrap64 (x4 + 1)) x224000 x224001 x224002)) else (none)) else (none)) else (annuitantref36_Valid.l0 k (wrap64 (x3 + x226004)) (wrap64 (x4 + 1)) x224000 x224001 x224002)))
end
def annuitantref36_Valid.f (k : Nat) (a0_0 : Int) (a0_1 : Int) (l0_2 : List (S47)) : Option (Bool) := if a0_0 < 1 then (annuitantref36_Valid.j0 k true a0_0 a0_1 l0_2) else (if a0_0 > 1099511627776 then (annuitantref36_Valid.j0 k true a0_0 a0_1 l0_2) else (if a0_1 < 0 then (annuitantref36_Valid.j0 k true a0_0 a0_1 l0_2) else (if a0_1 ≥ 65536 then (annuitantref36_Valid.j0 k true a0_0 a0_1 l0_2) else (annuitantref36_Valid.j0 k (decide ((l0_2.length : Int) > 1000)) a0_0 a0_1 l0_2))))
end Go.Proofs.YtndojpcjhkncgaaGreatDoor.Q
end

section

end

section
namespace Go.Proofs.YtndojpcjhkncgaaGreatDoor.Q
open Go.RowKit Go.Proofs.YtndojpcjhkncgaaGreatDoorW.PrintWords Go.Proofs.YtndojpcjhkncgaaGreatDoorW.PrintLast Go.Proofs.YtndojpcjhkncgaaGreatDoorW.PrintMore
attribute [local go_sem] max2_int min2_int max_two min_two max_three min_three max_four min_four   -- for this text's walks alone
set_option linter.unusedVariables false
set_option linter.unusedSimpArgs false
def bank_total.l0 : Nat → Int → List (S47) → Int → Int → Option (Int)
 | 0, _, _, _, _ => none
 | k + 1, x3, x7, x8, x9 => if x9 < x8 then (if 0 ≤ x9 then (if x9 < (x7.length : Int) then (bank_total.l0 k (wrap64 (x3 + ((rd_T47 x7 x9).f4))) x7 x8 (wrap64 (x9 + 1))) else (none)) else (none)) else (some x3)
def bank_total.f (k : Nat) (a0_0 : Int) (a0_1 : Int) (l0_2 : List (S47)) : Option (Int) := bank_total.l0 k 0 l0_2 (l0_2.length : Int) 0
set_option maxHeartbeats 8000000 in
set_option maxRecDepth 100000 in
theorem bank_total.calls (k : Nat) (a0_0 : Int) (a0_1 : Int) (A0_2 : Option Addr) (c0_2 : Nat) (l0_2 : List (S47)) (r : Int) (w : World) (hr0_2 : Kd.C k47 w A0_2 l0_2.length l0_2) (hc0_2 : l0_2.length ≤ c0_2) (h : bank_total.f k a0_0 a0_1 l0_2 = some r) :
  Calls Tryz.prog 46 #[.agg #[.int .i64 a0_0, .int .i64 a0_1, .slice A0_2 l0_2.length c0_2]] w fun e w' => e = .returned (.int .i64 r) ∧ Below w.heap.size w w' := by
 have hu27 := Tryz.underlying27; have hu47 := Tryz.underlying47; have HR0_2 := Aside0.mk hr0_2; have HC0_2 := Aside0.mk hc0_2; clear hr0_2 hc0_2; have HB := Aside0.mk (Below.refl w.heap.size w); have H : (bank_total.l0 k 0 l0_2 (l0_2.length : Int) 0) = some r := h; clear h; have H' := Aside0.mk H; clear H
 go_enter Tryz.func46, Tryz.ntmps46
 go_wp2_with (first | ((with_reducible refine gate_dst (N := 1) rfl ?_); refine box_event ?hg (N := 1) ?hd (cs := #[.int .i64 a0_0, .int .i64 a0_1, .slice A0_2 l0_2.length c0_2]) (t := 27) ?hr ?_; (case hd => rfl); (case hg => rfl); (case hr => first | (go_simp; done) | (go_simp; rfl)); intro gb124 hg w2 hbox hb; have BK124 := Aside0.mk (hbox); have GW124 := zG (w := w) hg; have GE124 := zG (w := w) hg; replace HB := zBs hb; clear hb hbox hg; obtain ⟨hcz3_0, hcz3_1, hcz3_2⟩ := zC3 BK124; obtain ⟨hfz3_0, hfz3_1, hfz3_2⟩ := zZ3 BK124))
 go_loopg [3, 9] k (fun kq v3 v9 w' => ∃ (x3_1 : Int) (x9_1 : Int), v3 = .int .i64 x3_1 ∧ v9 = .int .i64 x9_1 ∧ Aside0 (bank_total.l0 kq x3_1 l0_2 (l0_2.length : Int) x9_1 = some r) ∧ Aside0 (kq ≤ k) ∧ Aside0 (w'.heap[gb124]? = some (.cells #[.int .i64 a0_0, .int .i64 a0_1, (.slice A0_2 l0_2.length c0_2)] 27 (0, 0))) ∧ Aside0 (Below w.heap.size w w'))
 case atStart => exact ⟨(0), (0), (by first | rfl | (simp; done) | (simp [*]; done)), (by first | rfl | (simp; done) | (simp [*]; done)), H', ⟨Nat.le_refl _⟩, ⟨zK BK124⟩, ⟨zB⟩⟩
 case round =>
  clear H'
  try clear p2
  try clear hcz3_0
  try clear hcz3_1
  try clear hcz3_2
  try clear hfz3_0
  try clear hfz3_1
  try clear hfz3_2
  obtain ⟨x3_1, x9_1, rfl, rfl, HA, HK1, BK124, HB⟩ := hrel
  cases gk with
  | zero => exact absurd HA.out (by simp [bank_total.l0])
  | succ k1 =>
   have H := HA.out; clear HA
   simp only [bank_total.l0] at H
   by_cases c4 : x9_1 < (l0_2.length : Int)
   ·
    rw [if_pos c4] at H
    have c4b0 : decide (x9_1 < (l0_2.length : Int)) = true := decide_eq_true c4; clear c4
    by_cases c5 : 0 ≤ x9_1
    ·
     rw [if_pos c5] at H
     have c5b0 : decide (0 ≤ x9_1) = true := decide_eq_true c5; clear c5
     by_cases c6 : x9_1 < (l0_2.length : Int)
     ·
      rw [if_pos c6] at H
      have c6b0 : decide (x9_1 < (l0_2.length : Int)) = true := decide_eq_true c6; clear c6; have H' := Aside0.mk H; clear H; have p125 : 0 ≤ (x9_1 : Int) := zD; have q125 : x9_1 < (l0_2.length : Int) := zD; obtain ⟨ad125, e125, hx125_0, hx125_1, hx125_2, hx125_3, hx125_4⟩ := at_T47 HR0_2.out x9_1 p125 q125
      cases e125
      replace hx125_0 := zL HB hx125_0; replace hx125_1 := zL HB hx125_1; replace hx125_2 := zL HB hx125_2; replace hx125_3 := zL HB hx125_3; replace hx125_4 := zL HB hx125_4; replace p125 := eq_true p125; replace q125 := eq_true q125
      go_wp2_with (first | ((with_reducible refine gate_dst (N := 5) rfl ?_); refine box_event ?hg (N := 5) ?hd (cs := #[.int .i64 0, .int .i64 0, .int .i64 0, .int .i64 0, .int .i64 0]) (t := 47) ?hr ?_; (case hd => rfl); (case hg => rfl); (case hr => first | (go_simp; done) | (go_simp; rfl)); intro gb126 hg w7 hbox hb; have BK126 := Aside0.mk (hbox); have GW126 := zG (w := w) hg; have GE126 := zG (w := w) hg; replace HB := zBs hb; have NB124_126 := zN hg (zK BK124); have NB126_124 := zM hg (zK BK124); replace BK124 := zKb BK124 hb; clear hb hbox hg; have hnb8 := NB126_124.out; have hnc8 := NB124_126.out; obtain ⟨hcz9_0, hcz9_1, hcz9_2, hcz9_3, hcz9_4⟩ := zC5 BK126; obtain ⟨hfz9_0, hfz9_1, hfz9_2, hfz9_3, hfz9_4⟩ := zZ5 BK126))
      go_roundg k1
      case measure => have := HK1.out; omega
      case rel => exact ⟨(wrap64 (x3_1 + ((rd_T47 l0_2 x9_1).f4))), (wrap64 (x9_1 + 1)), (by first | rfl | (simp; done) | (simp [*]; done)), (by first | rfl | (simp; done) | (simp [*]; done)), H', ⟨by have := HK1.out; omega⟩, ⟨zF BK124⟩, ⟨zB⟩⟩
     ·
      rw [if_neg c6] at H
      exact absurd H (by simp)
    ·
     rw [if_neg c5] at H
     exact absurd H (by simp)
   ·
    rw [if_neg c4] at H
    have c4b0 : decide (x9_1 < (l0_2.length : Int)) = false := decide_eq_false c4; clear c4; obtain rfl := Option.some.inj H
    go_wp2
    go_ret
    exact ⟨zE, zB⟩
end Go.Proofs.YtndojpcjhkncgaaGreatDoor.Q
end

section
namespace Go.Proofs.YtndojpcjhkncgaaGreatDoor.Q
open Go.RowKit Go.Proofs.YtndojpcjhkncgaaGreatDoorW.PrintWords Go.Proofs.YtndojpcjhkncgaaGreatDoorW.PrintLast Go.Proofs.YtndojpcjhkncgaaGreatDoorW.PrintMore
attribute [local go_sem] max2_int min2_int max_two min_two max_three min_three max_four min_four   -- for this text's walks alone
set_option linter.unusedVariables false
set_option linter.unusedSimpArgs false
def bank_Total.f (k : Nat) (a0_0 : Int) (a0_1 : Int) (l0_2 : List (S47)) : Option (Int × Int) := (bank_Valid.f k a0_0 a0_1 l0_2).bind fun t128 => (if t128 = true then ((bank_total.f k a0_0 a0_1 l0_2).bind fun t129 => (some (t129, 0))) else (some (0, 2)))
set_option maxHeartbeats 8000000 in
set_option maxRecDepth 100000 in
theorem bank_Total.calls (k : Nat) (a0_0 : Int) (a0_1 : Int) (A0_2 : Option Addr) (c0_2 : Nat) (l0_2 : List (S47)) (r1 : Int) (r2 : Int) (w : World) (hr0_2 : Kd.C k47 w A0_2 l0_2.length l0_2) (hc0_2 : l0_2.length ≤ c0_2) (h : bank_Total.f k a0_0 a0_1 l0_2 = some (r1, r2)) :
  Calls Tryz.prog 26 #[.agg #[.int .i64 a0_0, .int .i64 a0_1, .slice A0_2 l0_2.length c0_2]] w fun e w' => e = .returned (.tuple #[.int .i64 r1, .int .i64 r2]) ∧ Below w.heap.size w w' := by
 have hu27 := Tryz.underlying27; have HR0_2 := Aside0.mk hr0_2; have HC0_2 := Aside0.mk hc0_2; clear hr0_2 hc0_2; have HB := Aside0.mk (Below.refl w.heap.size w); have H : ((bank_Valid.f k a0_0 a0_1 l0_2).bind fun t128 => (if t128 = true then ((bank_total.f k a0_0 a0_1 l0_2).bind fun t129 => (some (t129, 0))) else (some (0, 2)))) = some (r1, r2) := h; clear h; replace H := Option.bind_eq_some_iff.mp H; obtain ⟨t128, A20, H⟩ := H; replace H : (if t128 = true then ((bank_total.f k a0_0 a0_1 l0_2).bind fun t129 => (some (t129, 0))) else (some (0, 2))) = some (r1, r2) := H; have A2 := Aside0.mk A20; clear A20
 by_cases c3 : t128 = true
 ·
  subst c3
  have H1 : ((bank_total.f k a0_0 a0_1 l0_2).bind fun t129 => (some (t129, 0))) = some (r1, r2) := by rw [if_pos rfl] at H; exact H
  clear H; have H := H1; clear H1; replace H := Option.bind_eq_some_iff.mp H; obtain ⟨t129, A40, H⟩ := H; replace H : (some (t129, 0)) = some (r1, r2) := H; have A4 := Aside0.mk A40; clear A40
  simp only [Option.some.injEq, Prod.mk.injEq] at H
  obtain ⟨rfl, rfl⟩ := H
  go_enter Tryz.func26, Tryz.ntmps26
  go_wp2_with (first | ((with_reducible refine gate_dst (N := 1) rfl ?_); refine box_event ?hg (N := 1) ?hd (cs := #[.int .i64 a0_0, .int .i64 a0_1, .slice A0_2 l0_2.length c0_2]) (t := 27) ?hr ?_; (case hd => rfl); (case hg => rfl); (case hr => first | (go_simp; done) | (go_simp; rfl)); intro gb127 hg w5 hbox hb; have BK127 := Aside0.mk (hbox); have GW127 := zG (w := w) hg; have GE127 := zG (w := w) hg; replace HB := zBs hb; clear hb hbox hg; obtain ⟨hcz6_0, hcz6_1, hcz6_2⟩ := zC3 BK127; obtain ⟨hfz6_0, hfz6_1, hfz6_2⟩ := zZ3 BK127) | ((with_reducible refine gate_callee (f := 22) rfl ?_); refine goesL_ (some 5) rfl rfl Tryz.func22 (by kernel_rfl) rfl #[.agg #[.int .i64 a0_0, .int .i64 a0_1, .slice A0_2 l0_2.length c0_2]] rfl (by (try simp only [List.map_toArray, List.map_cons, List.map_nil]); try rfl) ?_; (with_reducible refine (bank_Valid.calls k a0_0 a0_1 _ _ l0_2 true _ ?side1 ?side2 A2.out).mono ?_); (case side1 => repeat (first | exact (Kd.C_below HR0_2.out HB.out) | (with_reducible refine Kd.C_alloc ?_ _) | (with_reducible refine Kd.C_drewN ?_ _) | (with_reducible refine Kd.C_drew ?_))); (case side2 => exact HC0_2.out); rintro e w7 ⟨rfl, hb⟩; refine ⟨_, rfl, ?_⟩; replace BK127 := zKb BK127 hb; replace HB := zBs hb; (try clear hb); (try clear hb2); (try clear hk); (try clear hi); obtain ⟨hcz8_0, hcz8_1, hcz8_2⟩ := zC3 BK127; obtain ⟨hfz8_0, hfz8_1, hfz8_2⟩ := zZ3 BK127) | ((with_reducible refine gate_callee (f := 46) rfl ?_); refine goesL_ (some 8) rfl rfl Tryz.func46 (by kernel_rfl) rfl #[.agg #[.int .i64 a0_0, .int .i64 a0_1, .slice A0_2 l0_2.length c0_2]] rfl (by (try simp only [List.map_toArray, List.map_cons, List.map_nil]); try rfl) ?_; (with_reducible refine (bank_total.calls k a0_0 a0_1 _ _ l0_2 t129 _ ?side1 ?side2 A4.out).mono ?_); (case side1 => repeat (first | exact (Kd.C_below HR0_2.out HB.out) | (with_reducible refine Kd.C_alloc ?_ _) | (with_reducible refine Kd.C_drewN ?_ _) | (with_reducible refine Kd.C_drew ?_))); (case side2 => exact HC0_2.out); rintro e w9 ⟨rfl, hb⟩; refine ⟨_, rfl, ?_⟩; replace BK127 := zKb BK127 hb; replace HB := zBs hb; (try clear hb); (try clear hb2); (try clear hk); (try clear hi)))
  go_ret2
  exact ⟨zE, zB⟩
 ·
  replace c3 := Bool.eq_false_iff.mpr c3; subst c3
  have H1 : (some (0, 2)) = some (r1, r2) := by rw [if_neg (show ¬ (false = true) by decide)] at H; exact H
  clear H; have H := H1; clear H1
  simp only [Option.some.injEq, Prod.mk.injEq] at H
  obtain ⟨rfl, rfl⟩ := H
  go_enter Tryz.func26, Tryz.ntmps26
  go_wp2_with (first | ((with_reducible refine gate_dst (N := 1) rfl ?_); refine box_event ?hg (N := 1) ?hd (cs := #[.int .i64 a0_0, .int .i64 a0_1, .slice A0_2 l0_2.length c0_2]) (t := 27) ?hr ?_; (case hd => rfl); (case hg => rfl); (case hr => first | (go_simp; done) | (go_simp; rfl)); intro gb127 hg w10 hbox hb; have BK127 := Aside0.mk (hbox); have GW127 := zG (w := w) hg; have GE127 := zG (w := w) hg; replace HB := zBs hb; clear hb hbox hg; obtain ⟨hcz11_0, hcz11_1, hcz11_2⟩ := zC3 BK127; obtain ⟨hfz11_0, hfz11_1, hfz11_2⟩ := zZ3 BK127) | ((with_reducible refine gate_callee (f := 22) rfl ?_); refine goesL_ (some 5) rfl rfl Tryz.func22 (by kernel_rfl) rfl #[.agg #[.int .i64 a0_0, .int .i64 a0_1, .slice A0_2 l0_2.length c0_2]] rfl (by (try simp only [List.map_toArray, List.map_cons, List.map_nil]); try rfl) ?_; (with_reducible refine (bank_Valid.calls k a0_0 a0_1 _ _ l0_2 false _ ?side1 ?side2 A2.out).mono ?_); (case side1 => repeat (first | exact (Kd.C_below HR0_2.out HB.out) | (with_reducible refine Kd.C_alloc ?_ _) | (with_reducible refine Kd.C_drewN ?_ _) | (with_reducible refine Kd.C_drew ?_))); (case side2 => exact HC0_2.out); rintro e w12 ⟨rfl, hb⟩; refine ⟨_, rfl, ?_⟩; replace BK127 := zKb BK127 hb; replace HB := zBs hb; (try clear hb); (try clear hb2); (try clear hk); (try clear hi)))
  go_ret2
  exact ⟨zE, zB⟩
end Go.Proofs.YtndojpcjhkncgaaGreatDoor.Q
end

section
namespace Go.Proofs.YtndojpcjhkncgaaGreatDoor.Q
open Go.RowKit Go.Proofs.YtndojpcjhkncgaaGreatDoorW.PrintWords Go.Proofs.YtndojpcjhkncgaaGreatDoorW.PrintLast Go.Proofs.YtndojpcjhkncgaaGreatDoorW.PrintMore
attribute [local go_sem] max2_int min2_int max_two min_two max_three min_three max_four min_four   -- for this text's walks alone
set_option linter.unusedVariables false
set_option linter.unusedSimpArgs false
def annuitantref36_sum.l0 : Nat → Int → Int → Int → Int → List (S47) → Option (Int)
 | 0, _, _, _, _, _ => none
 | k + 1, x3, x4, x237000, x237001, x237002 => if x4 < (x237002.length : Int) then (if 0 ≤ x4 then (annuitantref36_sum.l0 k (wrap64 (x3 + ((rd_T47 x237002 x4).f4))) (wrap64 (x4 + 1)) x237000 x237001 x237002) else (none)) else (some x3)
def annuitantref36_sum.f (k : Nat) (a0_0 : Int) (a0_1 : Int) (l0_2 : List (S47)) : Option (Int) := annuitantref36_sum.l0 k 0 0 a0_0 a0_1 l0_2
end Go.Proofs.YtndojpcjhkncgaaGreatDoor.Q
end

section
namespace Go.Proofs.YtndojpcjhkncgaaGreatDoor.Q
open Go.RowKit Go.Proofs.YtndojpcjhkncgaaGreatDoorW.PrintWords Go.Proofs.YtndojpcjhkncgaaGreatDoorW.PrintLast Go.Proofs.YtndojpcjhkncgaaGreatDoorW.PrintMore
attribute [local go_sem] max2_int min2_int max_two min_two max_three min_three max_four min_four   -- for this text's walks alone
set_option linter.unusedVariables false
set_option linter.unusedSimpArgs false
def annuitantref36_Total.f (k : Nat) (a0_0 : Int) (a0_1 : Int) (l0_2 : List (S47)) : Option (Int × Int) := (annuitantref36_Valid.f k a0_0 a0_1 l0_2).bind fun t411 => (if t411 = true then ((annuitantref36_sum.f k a0_0 a0_1 l0_2).bind fun t412 => (some (t412, 0))) else (some (0, 2)))
end Go.Proofs.YtndojpcjhkncgaaGreatDoor.Q
end

section
namespace Go.Proofs.YtndojpcjhkncgaaGreatDoor.Q
open Go.RowKit Go.Proofs.YtndojpcjhkncgaaGreatDoorW.PrintWords
set_option linter.unusedVariables false
set_option linter.unusedSimpArgs false
def countB (n : Int) : Bool := decide (1 ≤ n) && decide (n ≤ 1099511627776)
def datedB (n d : Int) : Bool := countB n && (decide (0 ≤ d) && decide (d < 65536))
def orderB (o : S47) : Bool := countB o.f0 && (countB o.f1 && (decide (0 ≤ o.f2) && (decide (o.f2 ≤ 1099511627776) && (decide (-1099511627776 ≤ o.f3) && (decide (o.f3 ≤ o.f2) && (decide (o.f4 = o.f2 - o.f3) && decide (o.f4 ≤ 1099511627776)))))))
def ordersB : Int → Int → List S47 → Bool
  | _, _, [] => true
  | last, tot, o :: l => orderB o && (decide (last < o.f0) && (decide (tot + o.f4 ≤ 1099511627776) && ordersB o.f0 (tot + o.f4) l))
def validB (n d : Int) (l : List S47) : Bool := datedB n d && (decide ((l.length : Int) ≤ 1000) && ordersB 0 0 l)
theorem counts_f (n : Int) : bank_counts.f n = some (countB n) := by
  unfold bank_counts.f countB
  by_cases h : 1 ≤ n
  · rw [if_pos h]; simp [h]
  · rw [if_neg h]; simp [h]
theorem dated_f (n d : Int) : bank_dated.f n d = some (datedB n d) := by
  unfold bank_dated.f datedB
  rw [counts_f]
  simp only [Option.bind_some]
  cases countB n with
  | false => simp
  | true =>
    by_cases h : 0 ≤ d
    · simp [h]
    · simp [h]
theorem orderB_net {o : S47} (h : orderB o = true) : 0 ≤ o.f4 ∧ o.f4 ≤ 1099511627776 ∧ 1 ≤ o.f0 ∧ o.f0 ≤ 1099511627776 := by
  simp only [orderB, countB, Bool.and_eq_true, decide_eq_true_eq] at h
  omega
theorem right_f (o : S47) : bank_right.f o.f0 o.f1 o.f2 o.f3 o.f4 = some (orderB o) := by
  unfold bank_right.f orderB
  rw [counts_f, counts_f]
  simp only [Option.bind_some]
  cases countB o.f0 with
  | false => simp
  | true =>
    cases countB o.f1 with
    | false => simp
    | true =>
      by_cases h2 : 0 ≤ o.f2
      · by_cases h3 : o.f2 ≤ 1099511627776
        · by_cases h4 : -1099511627776 ≤ o.f3
          · by_cases h5 : o.f3 ≤ o.f2
            · rw [w64 (by omega) (by omega)]
              by_cases h6 : o.f4 = o.f2 - o.f3
              · simp [h2, h3, h4, h5, h6]
              · simp [h2, h3, h4, h5, h6]
            · simp [h2, h3, h4, h5]
          · simp [h2, h3, h4]
        · simp [h2, h3]
      · simp [h2]
theorem rdT (L : List S47) (i : Nat) (h : i < L.length) : rd_T47 L (i : Int) = L[i] := by unfold rd_T47; simp [h]
theorem Valid_l0 (L : List S47) (hL : (L.length : Int) ≤ 4611686018427387904) (d : Nat) : ∀ (i : Nat) (last tot : Int), i + d = L.length → 0 ≤ tot → tot ≤ 1099511627776 →
    Ev (fun k => bank_Valid.l0 k last tot L (L.length : Int) (i : Int)) (ordersB last tot (L.drop i)) := by
  induction d with
  | zero =>
    intro i last tot hi h0 h1
    rw [List.drop_eq_nil_of_le (by omega)]
    refine Ev.step (fun k => by rw [bank_Valid.l0]) (Ev.neg (by omega) (Ev.now true))
  | succ d ih =>
    intro i last tot hi h0 h1
    have hlt : i < L.length := by omega
    rw [drop_get L i hlt]
    refine Ev.step (fun k => by rw [bank_Valid.l0]) (Ev.pos (by omega) (Ev.pos (by omega) (Ev.pos (by omega) ?_)))
    rw [rdT L i hlt, right_f]
    refine Ev.const rfl ?_
    simp only [ordersB]
    cases hb : orderB L[i] with
    | false => exact Ev.neg (by simp) (Ev.now false)
    | true =>
      have hn := orderB_net hb
      refine Ev.pos rfl ?_
      rw [w64 (n := tot + L[i].f4) (by omega) (by omega)]
      by_cases h2 : L[i].f0 ≤ last
      · refine Ev.pos h2 ?_
        rw [decide_eq_false (by omega : ¬ last < L[i].f0)]
        exact Ev.now false
      · refine Ev.neg h2 ?_
        rw [decide_eq_true (by omega : last < L[i].f0)]
        by_cases h3 : tot + L[i].f4 ≤ 1099511627776
        · refine Ev.neg (by omega) ?_
          rw [decide_eq_true h3]
          have := ih (i + 1) L[i].f0 (tot + L[i].f4) (by omega) (by omega) h3
          rw [w64 (by omega) (by omega)]
          exact this
        · refine Ev.pos (by omega) ?_
          rw [decide_eq_false h3]
          exact Ev.now false
theorem Valid_ev (n d : Int) (L : List S47) (hL : (L.length : Int) ≤ 4611686018427387904) : Ev (fun k => bank_Valid.f k n d L) (validB n d L) := by
  unfold bank_Valid.f validB
  refine Ev.const (dated_f n d) ?_
  cases datedB n d with
  | false => exact Ev.neg (by simp) (Ev.step (fun k => by rw [bank_Valid.j0]) (Ev.pos rfl (Ev.now false)))
  | true =>
    refine Ev.pos rfl (Ev.step (fun k => by rw [bank_Valid.j0]) ?_)
    by_cases h : (L.length : Int) ≤ 1000
    · refine Ev.neg (by simp; omega) ?_
      have := Valid_l0 L hL L.length 0 0 0 (by omega) (by omega) (by omega)
      simpa [h] using this
    · refine Ev.pos (by simp; omega) ?_
      rw [decide_eq_false h]
      exact Ev.now false
def before (L : List S47) (i : Nat) : Int := if i = 0 then 0 else (L.getD (i - 1) z47).f0
theorem ref_j2 (L : List S47) (n d : Int) (o : S47) (bad : Bool) (tot : Int) (i : Nat) (hi : i < L.length) (hL : (L.length : Int) ≤ 4611686018427387904) (h0 : 0 ≤ tot) (h1 : tot ≤ 1099511627776) (hb : bad = true → orderB o = false) (hb' : bad = false → orderB o = true)
    (ih : orderB o = true → tot + o.f4 ≤ 1099511627776 → Ev (fun k => annuitantref36_Valid.l0 k (tot + o.f4) ((i : Int) + 1) n d L) (ordersB o.f0 (tot + o.f4) (L.drop (i + 1)))) :
    Ev (fun k => annuitantref36_Valid.j2 k tot (i : Int) bad n d L o.f0 o.f1 o.f2 o.f3 o.f4) (ordersB (before L i) tot (o :: L.drop (i + 1))) := by
  refine Ev.step (fun k => by rw [annuitantref36_Valid.j2]) ?_
  cases bad with
  | true =>
    simp only [ordersB]
    rw [hb rfl]
    exact Ev.pos (by trivial) (Ev.now false)
  | false =>
    have hO := hb' rfl
    have hn := orderB_net hO
    simp only [ordersB]
    rw [hO]
    refine Ev.neg (by simp) ?_
    rw [w64 (n := tot + o.f4) (by omega) (by omega)]
    by_cases h3 : tot + o.f4 ≤ 1099511627776
    · refine Ev.neg (by omega) ?_
      have ih := ih hO h3
      rw [w64 (n := (i : Int) + 1) (by omega) (by omega)]
      rw [decide_eq_true h3]
      by_cases hz : i = 0
      · subst hz
        refine Ev.neg (by omega) ?_
        rw [show before L 0 = 0 from rfl, decide_eq_true (by omega : (0 : Int) < o.f0)]
        exact ih
      · refine Ev.pos (by omega) ?_
        rw [w64 (n := (i : Int) - 1) (by omega) (by omega)]
        refine Ev.pos (by omega) (Ev.pos (by omega) ?_)
        have hr : (rd_T47 L ((i : Int) - 1)).f0 = before L i := by
          unfold before rd_T47
          rw [if_neg hz, show ((i : Int) - 1).toNat = i - 1 by omega]
        rw [hr]
        by_cases h2 : o.f0 ≤ before L i
        · refine Ev.pos h2 ?_
          rw [decide_eq_false (by omega : ¬ before L i < o.f0)]
          exact Ev.now false
        · refine Ev.neg h2 ?_
          rw [decide_eq_true (by omega : before L i < o.f0)]
          exact ih
    · refine Ev.pos (by omega) ?_
      rw [decide_eq_false h3]
      simp only [Bool.false_and, Bool.and_false]
      exact Ev.now false
theorem ref_l0 (L : List S47) (n d0 : Int) (hL : (L.length : Int) ≤ 4611686018427387904) (d : Nat) : ∀ (i : Nat) (tot : Int), i + d = L.length → 0 ≤ tot → tot ≤ 1099511627776 →
    Ev (fun k => annuitantref36_Valid.l0 k tot (i : Int) n d0 L) (ordersB (before L i) tot (L.drop i)) := by
  induction d with
  | zero =>
    intro i tot hi h0 h1
    rw [List.drop_eq_nil_of_le (by omega)]
    refine Ev.step (fun k => by rw [annuitantref36_Valid.l0]) (Ev.neg (by omega) (Ev.now true))
  | succ d ih =>
    intro i tot hi h0 h1
    have hlt : i < L.length := by omega
    rw [drop_get L i hlt]
    have hb : before L (i + 1) = L[i].f0 := by unfold before; rw [if_neg (by omega), Nat.add_sub_cancel]; simp [hlt]
    have go : ∀ bad, (bad = true → orderB L[i] = false) → (bad = false → orderB L[i] = true) → Ev (fun k => annuitantref36_Valid.j2 k tot (i : Int) bad n d0 L L[i].f0 L[i].f1 L[i].f2 L[i].f3 L[i].f4) (ordersB (before L i) tot (L[i] :: L.drop (i + 1))) := by
      intro bad h h'
      refine ref_j2 L n d0 L[i] bad tot i hlt hL h0 h1 h h' ?_
      intro hO h3
      have := ih (i + 1) (tot + L[i].f4) (by omega) (by have := orderB_net hO; omega) h3
      rw [hb] at this
      exact this
    refine Ev.step (fun k => by rw [annuitantref36_Valid.l0]) (Ev.pos (by omega) (Ev.pos (by omega) ?_))
    rw [rdT L i hlt]
    have no : ∀ {c : Prop}, (c → orderB L[i] = false) → c → Ev (fun k => annuitantref36_Valid.j2 k tot (i : Int) true n d0 L L[i].f0 L[i].f1 L[i].f2 L[i].f3 L[i].f4) (ordersB (before L i) tot (L[i] :: L.drop (i + 1))) := fun h hc => go true (fun _ => h hc) (fun e => by cases e)
    by_cases c1 : L[i].f0 < 1
    · exact Ev.pos c1 (no (fun _ => by simp [orderB, countB]; omega) c1)
    refine Ev.neg c1 ?_
    by_cases c2 : L[i].f0 > 1099511627776
    · exact Ev.pos c2 (no (fun _ => by simp [orderB, countB]; omega) c2)
    refine Ev.neg c2 ?_
    by_cases c3 : L[i].f1 < 1
    · exact Ev.pos c3 (no (fun _ => by simp [orderB, countB]; omega) c3)
    refine Ev.neg c3 ?_
    by_cases c4 : L[i].f1 > 1099511627776
    · exact Ev.pos c4 (no (fun _ => by simp [orderB, countB]; omega) c4)
    refine Ev.neg c4 ?_
    by_cases c5 : L[i].f2 < 0
    · exact Ev.pos c5 (no (fun _ => by simp [orderB, countB]; omega) c5)
    refine Ev.neg c5 ?_
    by_cases c6 : L[i].f2 > 1099511627776
    · exact Ev.pos c6 (no (fun _ => by simp [orderB, countB]; omega) c6)
    refine Ev.neg c6 ?_
    by_cases c7 : L[i].f3 < -1099511627776
    · exact Ev.pos c7 (no (fun _ => by simp [orderB, countB]; omega) c7)
    refine Ev.neg c7 ?_
    by_cases c8 : L[i].f3 > L[i].f2
    · exact Ev.pos c8 (no (fun _ => by simp [orderB, countB]; omega) c8)
    refine Ev.neg c8 ?_
    rw [w64 (by omega) (by omega)]
    by_cases c9 : L[i].f4 = L[i].f2 - L[i].f3
    · refine Ev.pos c9 (go _ ?_ ?_)
      · intro h
        have h := of_decide_eq_true h
        simp [orderB, countB]
        omega
      · intro h
        have h := of_decide_eq_false h
        simp [orderB, countB]
        omega
    · exact Ev.neg c9 (no (fun _ => by simp [orderB, countB]; omega) c9)
theorem refValid_ev (n d : Int) (L : List S47) (hL : (L.length : Int) ≤ 4611686018427387904) : Ev (fun k => annuitantref36_Valid.f k n d L) (validB n d L) := by
  unfold annuitantref36_Valid.f validB
  have no : datedB n d = false → Ev (fun k => annuitantref36_Valid.j0 k true n d L) (datedB n d && (decide ((L.length : Int) ≤ 1000) && ordersB 0 0 L)) := by
    intro h
    rw [h]
    exact Ev.step (fun k => by rw [annuitantref36_Valid.j0]) (Ev.pos rfl (Ev.now false))
  by_cases c1 : n < 1
  · exact Ev.pos c1 (no (by simp [datedB, countB]; omega))
  refine Ev.neg c1 ?_
  by_cases c2 : n > 1099511627776
  · exact Ev.pos c2 (no (by simp [datedB, countB]; omega))
  refine Ev.neg c2 ?_
  by_cases c3 : d < 0
  · exact Ev.pos c3 (no (by simp [datedB, countB]; omega))
  refine Ev.neg c3 ?_
  by_cases c4 : d ≥ 65536
  · exact Ev.pos c4 (no (by simp [datedB, countB]; omega))
  refine Ev.neg c4 ?_
  rw [show datedB n d = true by simp [datedB, countB]; omega]
  refine Ev.step (fun k => by rw [annuitantref36_Valid.j0]) ?_
  by_cases h : (L.length : Int) ≤ 1000
  · refine Ev.neg (by simp; omega) ?_
    have := ref_l0 L n d hL L.length 0 0 (by omega) (by omega) (by omega)
    rw [show before L 0 = 0 from rfl] at this
    simpa [h] using this
  · refine Ev.pos (by simp; omega) ?_
    rw [decide_eq_false h]
    exact Ev.now false
def backB (o : S49) : Bool := countB o.f0 && (decide (1 ≤ o.f1) && decide (o.f1 ≤ 9))
def backsB : Int → List S49 → Bool
  | _, [] => true
  | last, o :: l => decide (last < o.f0) && (backB o && backsB o.f0 l)
def rightB (n d : Int) (l : List S49) : Bool := backsB 0 l && (datedB n d && decide ((l.length : Int) ≤ 1000))
theorem rdR (L : List S49) (i : Nat) (h : i < L.length) : rd_T49 L (i : Int) = L[i] := by unfold rd_T49; simp [h]
theorem Right_l0 (L : List S49) (n dd : Int) (hL : (L.length : Int) ≤ 4611686018427387904) (d : Nat) : ∀ (i : Nat) (last : Int), i + d = L.length →
    Ev (fun k => bank_Right.l0 k last L (L.length : Int) (i : Int) n dd L) (backsB last (L.drop i) && (datedB n dd && decide ((L.length : Int) ≤ 1000))) := by
  induction d with
  | zero =>
    intro i last hi
    rw [List.drop_eq_nil_of_le (by omega)]
    refine Ev.step (fun k => by rw [bank_Right.l0]) (Ev.neg (by omega) (Ev.const (dated_f n dd) ?_))
    cases datedB n dd with
    | false => exact Ev.neg (by simp) (Ev.now false)
    | true => exact Ev.pos rfl (Ev.ret (by simp [backsB]))
  | succ d ih =>
    intro i last hi
    have hlt : i < L.length := by omega
    rw [drop_get L i hlt]
    refine Ev.step (fun k => by rw [bank_Right.l0]) (Ev.pos (by omega) (Ev.pos (by omega) (Ev.pos (by omega) ?_)))
    rw [rdR L i hlt]
    simp only [backsB]
    by_cases h1 : L[i].f0 ≤ last
    · refine Ev.pos h1 ?_
      rw [decide_eq_false (by omega : ¬ last < L[i].f0)]
      exact Ev.now false
    · refine Ev.neg h1 (Ev.const (counts_f _) ?_)
      rw [decide_eq_true (by omega : last < L[i].f0)]
      unfold backB
      cases countB L[i].f0 with
      | false => exact Ev.neg (by simp) (Ev.now false)
      | true =>
        refine Ev.pos (by trivial) ?_
        by_cases h2 : L[i].f1 < 1
        · refine Ev.pos h2 ?_
          rw [decide_eq_false (by omega : ¬ 1 ≤ L[i].f1)]
          exact Ev.now false
        · refine Ev.neg h2 ?_
          by_cases h3 : L[i].f1 > 9
          · refine Ev.pos h3 ?_
            rw [decide_eq_false (by omega : ¬ L[i].f1 ≤ 9)]
            simp only [Bool.and_false, Bool.false_and, Bool.true_and]
            exact Ev.now false
          · refine Ev.neg h3 ?_
            rw [decide_eq_true (by omega : 1 ≤ L[i].f1), decide_eq_true (by omega : L[i].f1 ≤ 9), w64 (by omega) (by omega)]
            simp only [Bool.true_and]
            exact ih (i + 1) L[i].f0 (by omega)
theorem Right_ev (n d : Int) (L : List S49) (hL : (L.length : Int) ≤ 4611686018427387904) : Ev (fun k => bank_Right.f k n d L) (rightB n d L) := by
  unfold bank_Right.f rightB
  exact Right_l0 L n d hL L.length 0 0 (by omega)
def asRef (o : S49) : S78 := ⟨o.f0, o.f1⟩
def netSum (l : List S47) : Int := (l.map fun o => o.f4).sum
theorem netSum_le : ∀ (l : List S47) (last tot : Int), 0 ≤ tot → tot ≤ 1099511627776 → ordersB last tot l = true → 0 ≤ netSum l ∧ tot + netSum l ≤ 1099511627776
  | [], last, tot, h0, h1, _ => by simp [netSum]; omega
  | o :: l, last, tot, h0, h1, h => by
    simp only [ordersB, Bool.and_eq_true, decide_eq_true_eq] at h
    obtain ⟨ho, _, ht, hr⟩ := h
    have hn := orderB_net ho
    have := netSum_le l o.f0 (tot + o.f4) (by omega) ht hr
    unfold netSum at this ⊢
    simp only [List.map_cons, List.sum_cons]
    omega
theorem total_l0 (L : List S47) (hL : (L.length : Int) ≤ 4611686018427387904) (d : Nat) : ∀ (i : Nat) (last tot : Int), i + d = L.length → 0 ≤ tot → tot ≤ 1099511627776 → ordersB last tot (L.drop i) = true →
    Ev (fun k => bank_total.l0 k tot L (L.length : Int) (i : Int)) (tot + netSum (L.drop i)) ∧ ∀ n dd, Ev (fun k => annuitantref36_sum.l0 k tot (i : Int) n dd L) (tot + netSum (L.drop i)) := by
  induction d with
  | zero =>
    intro i last tot hi h0 h1 hv
    rw [List.drop_eq_nil_of_le (by omega)]
    exact ⟨Ev.step (fun k => by rw [bank_total.l0]) (Ev.neg (by omega) (Ev.ret (by simp [netSum]))), fun n dd => Ev.step (fun k => by rw [annuitantref36_sum.l0]) (Ev.neg (by omega) (Ev.ret (by simp [netSum])))⟩
  | succ d ih =>
    intro i last tot hi h0 h1 hv
    have hlt : i < L.length := by omega
    rw [drop_get L i hlt] at hv ⊢
    simp only [ordersB, Bool.and_eq_true, decide_eq_true_eq] at hv
    obtain ⟨ho, _, ht, hr⟩ := hv
    have hn := orderB_net ho
    obtain ⟨h2, h3⟩ := ih (i + 1) L[i].f0 (tot + L[i].f4) (by omega) (by omega) ht hr
    have e : tot + netSum (L[i] :: L.drop (i + 1)) = tot + L[i].f4 + netSum (L.drop (i + 1)) := by unfold netSum; rw [List.map_cons, List.sum_cons]; omega
    rw [e]
    constructor
    · refine Ev.step (fun k => by rw [bank_total.l0]) (Ev.pos (by omega) (Ev.pos (by omega) (Ev.pos (by omega) ?_)))
      rw [rdT L i hlt, w64 (n := tot + L[i].f4) (by omega) (by omega), w64 (by omega) (by omega)]
      exact h2
    · intro n dd
      refine Ev.step (fun k => by rw [annuitantref36_sum.l0]) (Ev.pos (by omega) (Ev.pos (by omega) ?_))
      rw [rdT L i hlt, w64 (n := tot + L[i].f4) (by omega) (by omega), w64 (by omega) (by omega)]
      exact h3 n dd
theorem valid_orders {n d : Int} {L : List S47} (h : validB n d L = true) : datedB n d = true ∧ (L.length : Int) ≤ 1000 ∧ ordersB 0 0 L = true := by
  simp only [validB, Bool.and_eq_true, decide_eq_true_eq] at h
  exact h
theorem total_ev (n d : Int) (L : List S47) (h : validB n d L = true) : Ev (fun k => bank_total.f k n d L) (netSum L) ∧ Ev (fun k => annuitantref36_sum.f k n d L) (netSum L) := by
  obtain ⟨_, h1, h2⟩ := valid_orders h
  obtain ⟨h3, h4⟩ := total_l0 L (by omega) L.length 0 0 0 (by omega) (by omega) (by omega) h2
  exact ⟨(Ev.eq h3 (by simp)), (Ev.eq (h4 n d) (by simp))⟩
def totalS (n d : Int) (L : List S47) : Int × Int := if validB n d L = true then (netSum L, 0) else (0, 2)
theorem Total_ev (n d : Int) (L : List S47) (hL : (L.length : Int) ≤ 4611686018427387904) : Ev (fun k => bank_Total.f k n d L) (totalS n d L) ∧ Ev (fun k => annuitantref36_Total.f k n d L) (totalS n d L) := by
  unfold bank_Total.f annuitantref36_Total.f totalS
  constructor
  · refine Ev.bind (Valid_ev n d L hL) ?_
    cases h : validB n d L with
    | false => exact Ev.neg (by simp) (Ev.now (0, 2))
    | true => exact Ev.pos rfl (Ev.bind (total_ev n d L h).1 (Ev.now (netSum L, 0)))
  · refine Ev.bind (refValid_ev n d L hL) ?_
    cases h : validB n d L with
    | false => exact Ev.neg (by simp) (Ev.now (0, 2))
    | true => exact Ev.pos rfl (Ev.bind (total_ev n d L h).2 (Ev.now (netSum L, 0)))
end Go.Proofs.YtndojpcjhkncgaaGreatDoor.Q
end

section
namespace Go.Proofs.YtndojpcjhkncgaaGreatDoor.Q
open Go.RowKit Go.Proofs.YtndojpcjhkncgaaGreatDoorW.PrintWords Go.Proofs.YtndojpcjhkncgaaGreatDoorW.PrintLast Go.Proofs.YtndojpcjhkncgaaGreatDoorW.PrintMore
attribute [local go_sem] max2_int min2_int max_two min_two max_three min_three max_four min_four   -- for this text's walks alone
set_option linter.unusedVariables false
set_option linter.unusedSimpArgs false
def bank_Match_1.f (a0_0 : Int) (a0_1 : Int) (a0_2 : Int) (a0_3 : Int) (a0_4 : Int) (a1 : Int) : Option (Int) := some (wrap64 (a0_0 - a1))
set_option maxHeartbeats 8000000 in
set_option maxRecDepth 100000 in
theorem bank_Match_1.calls (a0_0 : Int) (a0_1 : Int) (a0_2 : Int) (a0_3 : Int) (a0_4 : Int) (a1 : Int) (r : Int) (w : World) (h : bank_Match_1.f a0_0 a0_1 a0_2 a0_3 a0_4 a1 = some r) :
  Calls Tryz.prog 56 #[.agg #[.int .i64 a0_0, .int .i64 a0_1, .int .i64 a0_2, .int .i64 a0_3, .int .i64 a0_4], .int .i64 a1] w fun e w' => e = .returned (.int .i64 r) ∧ Below w.heap.size w w' := by
 have hu47 := Tryz.underlying47; have HB := Aside0.mk (Below.refl w.heap.size w); have H : (some (wrap64 (a0_0 - a1))) = some r := h; clear h; obtain rfl := Option.some.inj H
 go_enter Tryz.func56, Tryz.ntmps56
 go_wp2_with (first | ((with_reducible refine gate_dst (N := 2) rfl ?_); refine box_event ?hg (N := 2) ?hd (cs := #[.int .i64 a0_0, .int .i64 a0_1, .int .i64 a0_2, .int .i64 a0_3, .int .i64 a0_4]) (t := 47) ?hr ?_; (case hd => rfl); (case hg => rfl); (case hr => first | (go_simp; done) | (go_simp; rfl)); intro gb135 hg w3 hbox hb; have BK135 := Aside0.mk (hbox); have GW135 := zG (w := w) hg; have GE135 := zG (w := w) hg; replace HB := zBs hb; clear hb hbox hg; obtain ⟨hcz4_0, hcz4_1, hcz4_2, hcz4_3, hcz4_4⟩ := zC5 BK135; obtain ⟨hfz4_0, hfz4_1, hfz4_2, hfz4_3, hfz4_4⟩ := zZ5 BK135))
 go_ret
 exact ⟨zE, zB⟩
end Go.Proofs.YtndojpcjhkncgaaGreatDoor.Q
end

section
namespace Go.Proofs.YtndojpcjhkncgaaGreatDoor.Q
open Go.RowKit Go.Proofs.YtndojpcjhkncgaaGreatDoorW.PrintWords Go.Proofs.YtndojpcjhkncgaaGreatDoorW.PrintLast Go.Proofs.YtndojpcjhkncgaaGreatDoorW.PrintMore
attribute [local go_sem] max2_int min2_int max_two min_two max_three min_three max_four min_four   -- for this text's walks alone
set_option linter.unusedVariables false
set_option linter.unusedSimpArgs false
def api_Order_int_at56.l0 : Nat → List (S47) → Int → Int → Int → Int → Option (Int × Bool)
 | 0, _, _, _, _, _ => none
 | k + 1, x0, x1, x8, x9, x10 => if x9 < x10 then (if 0 ≤ (wrap64 ((IntKind.u64.wrap (wrap64 (x9 + x10))) / 2)) then (if (wrap64 ((IntKind.u64.wrap (wrap64 (x9 + x10))) / 2)) < (x0.length : Int) then ((bank_Match_1.f ((rd_T47 x0 (wrap64 ((IntKind.u64.wrap (wrap64 (x9 + x10))) / 2))).f0) ((rd_T47 x0 (wrap64 ((IntKind.u64.wrap (wrap64 (x9 + x10))) / 2))).f1) ((rd_T47 x0 (wrap64 ((IntKind.u64.wrap (wrap64 (x9 + x10))) / 2))).f2) ((rd_T47 x0 (wrap64 ((IntKind.u64.wrap (wrap64 (x9 + x10))) / 2))).f3) ((rd_T47 x0 (wrap64 ((IntKind.u64.wrap (wrap64 (x9 + x10))) / 2))).f4) x1).bind fun t137 => (if t137 < 0 then (api_Order_int_at56.l0 k x0 x1 x8 (wrap64 ((wrap64 ((IntKind.u64.wrap (wrap64 (x9 + x10))) / 2)) + 1)) x10) else (api_Order_int_at56.l0 k x0 x1 x8 x9 (wrap64 ((IntKind.u64.wrap (wrap64 (x9 + x10))) / 2))))) else (none)) else (none)) else (if x9 < x8 then (if 0 ≤ x9 then (if x9 < (x0.length : Int) then ((bank_Match_1.f ((rd_T47 x0 x9).f0) ((rd_T47 x0 x9).f1) ((rd_T47 x0 x9).f2) ((rd_T47 x0 x9).f3) ((rd_T47 x0 x9).f4) x1).bind fun t139 => (some (x9, (t139 == 0)))) else (none)) else (none)) else (some (x9, false)))
def api_Order_int_at56.f (k : Nat) (l0 : List (S47)) (a1 : Int)  : Option (Int × Bool) := api_Order_int_at56.l0 k l0 a1 (l0.length : Int) 0 (l0.length : Int)
set_option maxHeartbeats 8000000 in
set_option maxRecDepth 100000 in
theorem api_Order_int_at56.calls (k : Nat) (A0 : Option Addr) (c0 : Nat) (l0 : List (S47)) (a1 : Int)  (r1 : Int) (r2 : Bool) (w : World) (hr0 : Kd.C k47 w A0 l0.length l0) (hc0 : l0.length ≤ c0) (h : api_Order_int_at56.f k l0 a1 = some (r1, r2)) :
  Calls Tryz.prog 55 #[.slice A0 l0.length c0, .int .i64 a1, .func (.func 56) #[] #[]] w fun e w' => e = .returned (.tuple #[.int .i64 r1, .bool r2]) ∧ Below w.heap.size w w' := by
 have hu47 := Tryz.underlying47; have HR0 := Aside0.mk hr0; have HC0 := Aside0.mk hc0; clear hr0 hc0; have HB := Aside0.mk (Below.refl w.heap.size w); have H : (api_Order_int_at56.l0 k l0 a1 (l0.length : Int) 0 (l0.length : Int)) = some (r1, r2) := h; clear h; have H' := Aside0.mk H; clear H
 go_enter Tryz.func55, Tryz.ntmps55
 go_wp2
 go_loopg [9, 10] k (fun kq v9 v10 w' => ∃ (x9_1 : Int) (x10_1 : Int), v9 = .int .i64 x9_1 ∧ v10 = .int .i64 x10_1 ∧ Aside0 (api_Order_int_at56.l0 kq l0 a1 (l0.length : Int) x9_1 x10_1 = some (r1, r2)) ∧ Aside0 (kq ≤ k) ∧ Aside0 (Below w.heap.size w w'))
 case atStart => exact ⟨(0), ((l0.length : Int)), (by first | rfl | (simp; done) | (simp [*]; done)), (by first | rfl | (simp; done) | (simp [*]; done)), H', ⟨Nat.le_refl _⟩, ⟨zB⟩⟩
 case round =>
  clear H'
  try clear p2
  obtain ⟨x9_1, x10_1, rfl, rfl, HA, HK1, HB⟩ := hrel
  cases gk with
  | zero => exact absurd HA.out (by simp [api_Order_int_at56.l0])
  | succ k1 =>
   have H := HA.out; clear HA
   simp only [api_Order_int_at56.l0] at H
   by_cases c4 : x9_1 < x10_1
   ·
    rw [if_pos c4] at H
    have c4b0 : decide (x9_1 < x10_1) = true := decide_eq_true c4; clear c4
    obtain ⟨ji5, hji5⟩ : ∃ j_ : Int, (wrap64 ((IntKind.u64.wrap (wrap64 (x9_1 + x10_1))) / 2)) = j_ := ⟨_, rfl⟩
    replace H : (if 0 ≤ (ji5) then (if (ji5) < (l0.length : Int) then ((bank_Match_1.f ((rd_T47 l0 (ji5)).f0) ((rd_T47 l0 (ji5)).f1) ((rd_T47 l0 (ji5)).f2) ((rd_T47 l0 (ji5)).f3) ((rd_T47 l0 (ji5)).f4) a1).bind fun t137 => (if t137 < 0 then (api_Order_int_at56.l0 k1 l0 a1 (l0.length : Int) (wrap64 ((ji5) + 1)) x10_1) else (api_Order_int_at56.l0 k1 l0 a1 (l0.length : Int) x9_1 ji5))) else (none)) else (none)) = some (r1, r2) := by first | (rw [hji5] at H; exact H) | (simp only [hji5] at H ⊢; exact H)
    have hji5w : (IntKind.i64.wrap ((IntKind.u64.wrap (wrap64 (x9_1 + x10_1))) / 2)) = ji5 := (i64_w _).trans hji5
    by_cases c6 : 0 ≤ (ji5)
    ·
     rw [if_pos c6] at H
     have c6b0 : decide (0 ≤ (ji5)) = true := decide_eq_true c6; clear c6
     by_cases c7 : (ji5) < (l0.length : Int)
     ·
      rw [if_pos c7] at H
      have c7b0 : decide ((ji5) < (l0.length : Int)) = true := decide_eq_true c7; clear c7; replace H := Option.bind_eq_some_iff.mp H; obtain ⟨t137, A80, H⟩ := H; replace H : (if t137 < 0 then (api_Order_int_at56.l0 k1 l0 a1 (l0.length : Int) (wrap64 ((ji5) + 1)) x10_1) else (api_Order_int_at56.l0 k1 l0 a1 (l0.length : Int) x9_1 ji5)) = some (r1, r2) := H; have A8 := Aside0.mk A80; clear A80
      by_cases c9 : t137 < 0
      ·
       rw [if_pos c9] at H
       have c9b0 : decide (t137 < 0) = true := decide_eq_true c9; clear c9; have H' := Aside0.mk H; clear H; have p136 : 0 ≤ ((ji5) : Int) := zD; have q136 : (ji5) < (l0.length : Int) := zD; obtain ⟨ad136, e136, hx136_0, hx136_1, hx136_2, hx136_3, hx136_4⟩ := at_T47 HR0.out (ji5) p136 q136
       cases e136
       replace hx136_0 := zL HB hx136_0; replace hx136_1 := zL HB hx136_1; replace hx136_2 := zL HB hx136_2; replace hx136_3 := zL HB hx136_3; replace hx136_4 := zL HB hx136_4; replace p136 := eq_true p136; replace q136 := eq_true q136
       go_wp2_with (first | (go_at_call 56; (with_reducible refine (bank_Match_1.calls ((rd_T47 l0 (ji5)).f0) ((rd_T47 l0 (ji5)).f1) ((rd_T47 l0 (ji5)).f2) ((rd_T47 l0 (ji5)).f3) ((rd_T47 l0 (ji5)).f4) a1 t137 _ A8.out).mono ?_); rintro e w10 ⟨rfl, hb⟩; replace HB := zBs hb; (try clear hb); (try clear hb2); (try clear hk); (try clear hi)))
       go_roundg k1
       case measure => have := HK1.out; omega
       case rel => exact ⟨(wrap64 ((ji5) + 1)), (x10_1), (by first | rfl | (simp; done) | (simp only [← hji5] <;> (first | rfl | simp)) | (simp [*]; done)), (by first | rfl | (simp; done) | (simp [*]; done)), H', ⟨by have := HK1.out; omega⟩, ⟨zB⟩⟩
      ·
       rw [if_neg c9] at H
       have c9b0 : decide (t137 < 0) = false := decide_eq_false c9; clear c9; have H' := Aside0.mk H; clear H; have p136 : 0 ≤ ((ji5) : Int) := zD; have q136 : (ji5) < (l0.length : Int) := zD; obtain ⟨ad136, e136, hx136_0, hx136_1, hx136_2, hx136_3, hx136_4⟩ := at_T47 HR0.out (ji5) p136 q136
       cases e136
       replace hx136_0 := zL HB hx136_0; replace hx136_1 := zL HB hx136_1; replace hx136_2 := zL HB hx136_2; replace hx136_3 := zL HB hx136_3; replace hx136_4 := zL HB hx136_4; replace p136 := eq_true p136; replace q136 := eq_true q136
       go_wp2_with (first | (go_at_call 56; (with_reducible refine (bank_Match_1.calls ((rd_T47 l0 (ji5)).f0) ((rd_T47 l0 (ji5)).f1) ((rd_T47 l0 (ji5)).f2) ((rd_T47 l0 (ji5)).f3) ((rd_T47 l0 (ji5)).f4) a1 t137 _ A8.out).mono ?_); rintro e w11 ⟨rfl, hb⟩; replace HB := zBs hb; (try clear hb); (try clear hb2); (try clear hk); (try clear hi)))
       go_roundg k1
       case measure => have := HK1.out; omega
       case rel => exact ⟨(x9_1), (ji5), (by first | rfl | (simp; done) | (simp [*]; done)), (by first | rfl | (simp; done) | (simp only [← hji5] <;> (first | rfl | simp)) | (simp [*]; done)), H', ⟨by have := HK1.out; omega⟩, ⟨zB⟩⟩
     ·
      rw [if_neg c7] at H
      exact absurd H (by simp)
    ·
     rw [if_neg c6] at H
     exact absurd H (by simp)
   ·
    rw [if_neg c4] at H
    have c4b0 : decide (x9_1 < x10_1) = false := decide_eq_false c4; clear c4
    by_cases c12 : x9_1 < (l0.length : Int)
    ·
     rw [if_pos c12] at H
     have c12b0 : decide (x9_1 < (l0.length : Int)) = true := decide_eq_true c12; clear c12
     by_cases c13 : 0 ≤ x9_1
     ·
      rw [if_pos c13] at H
      have c13b0 : decide (0 ≤ x9_1) = true := decide_eq_true c13; clear c13
      by_cases c14 : x9_1 < (l0.length : Int)
      ·
       rw [if_pos c14] at H
       have c14b0 : decide (x9_1 < (l0.length : Int)) = true := decide_eq_true c14; clear c14; replace H := Option.bind_eq_some_iff.mp H; obtain ⟨t139, A150, H⟩ := H; replace H : (some (x9_1, (t139 == 0))) = some (r1, r2) := H; have A15 := Aside0.mk A150; clear A150
       simp only [Option.some.injEq, Prod.mk.injEq] at H
       obtain ⟨rfl, rfl⟩ := H; have p138 : 0 ≤ (x9_1 : Int) := zD; have q138 : x9_1 < (l0.length : Int) := zD; obtain ⟨ad138, e138, hx138_0, hx138_1, hx138_2, hx138_3, hx138_4⟩ := at_T47 HR0.out x9_1 p138 q138
       cases e138
       replace hx138_0 := zL HB hx138_0; replace hx138_1 := zL HB hx138_1; replace hx138_2 := zL HB hx138_2; replace hx138_3 := zL HB hx138_3; replace hx138_4 := zL HB hx138_4; replace p138 := eq_true p138; replace q138 := eq_true q138
       go_wp2_with (first | (go_at_call 56; (with_reducible refine (bank_Match_1.calls ((rd_T47 l0 x9_1).f0) ((rd_T47 l0 x9_1).f1) ((rd_T47 l0 x9_1).f2) ((rd_T47 l0 x9_1).f3) ((rd_T47 l0 x9_1).f4) a1 t139 _ A15.out).mono ?_); rintro e w16 ⟨rfl, hb⟩; replace HB := zBs hb; (try clear hb); (try clear hb2); (try clear hk); (try clear hi)))
       go_ret2
       exact ⟨zE, zB⟩
      ·
       rw [if_neg c14] at H
       exact absurd H (by simp)
     ·
      rw [if_neg c13] at H
      exact absurd H (by simp)
    ·
     rw [if_neg c12] at H
     have c12b0 : decide (x9_1 < (l0.length : Int)) = false := decide_eq_false c12; clear c12
     simp only [Option.some.injEq, Prod.mk.injEq] at H
     obtain ⟨rfl, rfl⟩ := H
     go_wp2
     go_ret2
     exact ⟨zE, zB⟩
end Go.Proofs.YtndojpcjhkncgaaGreatDoor.Q
end

section
namespace Go.Proofs.YtndojpcjhkncgaaGreatDoor.Q
open Go.RowKit Go.Proofs.YtndojpcjhkncgaaGreatDoorW.PrintWords Go.Proofs.YtndojpcjhkncgaaGreatDoorW.PrintLast Go.Proofs.YtndojpcjhkncgaaGreatDoorW.PrintMore
attribute [local go_sem] max2_int min2_int max_two min_two max_three min_three max_four min_four   -- for this text's walks alone
set_option linter.unusedVariables false
set_option linter.unusedSimpArgs false
mutual
def bank_Match.j0 : Nat → Bool → Int → Int → List (S47) → Int → Int → List (S49) → Option ((List (S47)) × Int)
 | 0, _, _, _, _, _, _, _ => none
 | k + 1, x11, x141000, x141001, x141002, x142000, x142001, x142002 => if x11 = true then (some (([] : List (S47)), 2)) else (if x141000 = x142000 then (if x142001 < x141001 then (some (([] : List (S47)), 363)) else (bank_Match.l0 k ([] : List (S47)) x142002 (x142002.length : Int) 0 x141000 x141001 x141002)) else (some (([] : List (S47)), 363)))
def bank_Match.l0 : Nat → List (S47) → List (S49) → Int → Int → Int → Int → List (S47) → Option ((List (S47)) × Int)
 | 0, _, _, _, _, _, _, _ => none
 | k + 1, x6, x34, x35, x36, x141000, x141001, x141002 => if x36 < x35 then (if 0 ≤ x36 then (if x36 < (x34.length : Int) then ((api_Order_int_at56.f k x141002 ((rd_T49 x34 x36).f0)).bind fun bt146 => (if bt146.2 = true then (if 0 ≤ bt146.1 then (if bt146.1 < (x141002.length : Int) then (if x6.length < 3518437208883 then (bank_Match.l0 k (x6 ++ [(⟨(rd_T47 x141002 bt146.1).f0, (rd_T47 x141002 bt146.1).f1, (rd_T47 x141002 bt146.1).f2, (rd_T47 x141002 bt146.1).f3, (rd_T47 x141002 bt146.1).f4⟩ : S47)]) x34 x35 (wrap64 (x36 + 1)) x141000 x141001 x141002) else (none)) else (none)) else (none)) else (some (([] : List (S47)), 6)))) else (none)) else (none)) else (some (x6, 0))
end
def bank_Match.f (k : Nat) (a0_0 : Int) (a0_1 : Int) (l0_2 : List (S47)) (a1_0 : Int) (a1_1 : Int) (l1_2 : List (S49)) : Option ((List (S47)) × Int) := (bank_Valid.f k a0_0 a0_1 l0_2).bind fun t142 => (if t142 = true then ((bank_Right.f k a1_0 a1_1 l1_2).bind fun t143 => (bank_Match.j0 k (!t143) a0_0 a0_1 l0_2 a1_0 a1_1 l1_2)) else (bank_Match.j0 k true a0_0 a0_1 l0_2 a1_0 a1_1 l1_2))
set_option maxHeartbeats 8000000 in
set_option maxRecDepth 100000 in
theorem bank_Match.calls (k : Nat) (a0_0 : Int) (a0_1 : Int) (A0_2 : Option Addr) (c0_2 : Nat) (l0_2 : List (S47)) (a1_0 : Int) (a1_1 : Int) (A1_2 : Option Addr) (c1_2 : Nat) (l1_2 : List (S49)) (r1 : List (S47)) (r2 : Int) (w : World) (hr0_2 : Kd.C k47 w A0_2 l0_2.length l0_2) (hc0_2 : l0_2.length ≤ c0_2) (hr1_2 : Kd.C k49 w A1_2 l1_2.length l1_2) (hc1_2 : l1_2.length ≤ c1_2) (h : bank_Match.f k a0_0 a0_1 l0_2 a1_0 a1_1 l1_2 = some (r1, r2)) :
  Calls Tryz.prog 31 #[.agg #[.int .i64 a0_0, .int .i64 a0_1, .slice A0_2 l0_2.length c0_2], .agg #[.int .i64 a1_0, .int .i64 a1_1, .slice A1_2 l1_2.length c1_2]] w fun e w' => ∃ v0_ : Value, e = .returned (.tuple #[v0_, .int .i64 r2]) ∧ Kd.R k47 47 w' w.heap.size (fun _ => True) v0_ r1 ∧ Below w.heap.size w w' := by
 have hu27 := Tryz.underlying27; have hu30 := Tryz.underlying30; have hu49 := Tryz.underlying49; have hu47 := Tryz.underlying47; have HR0_2 := Aside0.mk hr0_2; have HC0_2 := Aside0.mk hc0_2; clear hr0_2 hc0_2; have HR1_2 := Aside0.mk hr1_2; have HC1_2 := Aside0.mk hc1_2; clear hr1_2 hc1_2; have HB := Aside0.mk (Below.refl w.heap.size w); have H : ((bank_Valid.f k a0_0 a0_1 l0_2).bind fun t142 => (if t142 = true then ((bank_Right.f k a1_0 a1_1 l1_2).bind fun t143 => (bank_Match.j0 k (!t143) a0_0 a0_1 l0_2 a1_0 a1_1 l1_2)) else (bank_Match.j0 k true a0_0 a0_1 l0_2 a1_0 a1_1 l1_2))) = some (r1, r2) := h; clear h; have HC3 := Aside0.mk H; clear H
 go_enter Tryz.func31, Tryz.ntmps31
 go_upto_region 1 with (first | ((with_reducible refine gate_dst (N := 2) rfl ?_); refine box_event ?hg (N := 2) ?hd (cs := #[.int .i64 a0_0, .int .i64 a0_1, .slice A0_2 l0_2.length c0_2]) (t := 27) ?hr ?_; (case hd => rfl); (case hg => rfl); (case hr => first | (go_simp; done) | (go_simp; rfl)); intro gb140 hg w4 hbox hb; have BK140 := Aside0.mk (hbox); have GW140 := zG (w := w) hg; have GE140 := zG (w := w) hg; replace HB := zBs hb; clear hb hbox hg) | ((with_reducible refine gate_dst (N := 3) rfl ?_); refine box_event ?hg (N := 3) ?hd (cs := #[.int .i64 a1_0, .int .i64 a1_1, .slice A1_2 l1_2.length c1_2]) (t := 30) ?hr ?_; (case hd => rfl); (case hg => rfl); (case hr => first | (go_simp; done) | (go_simp; rfl)); intro gb141 hg w5 hbox hb; have BK141 := Aside0.mk (hbox); have GW141 := zG (w := w) hg; have GE141 := zG (w := w) hg; replace HB := zBs hb; have NB140_141 := zN hg (zK BK140); have NB141_140 := zM hg (zK BK140); replace BK140 := zKb BK140 hb; clear hb hbox hg))
 (try simp only [Act.put, List.setIfInBounds_toArray, List.set_cons_zero, List.set_cons_succ])
 go_cut [11] (fun v11 wc => ∃ (kq : Nat) (x11_2 : Bool), v11 = .bool x11_2 ∧ Aside0 (bank_Match.j0 kq x11_2 a0_0 a0_1 l0_2 a1_0 a1_1 l1_2 = some (r1, r2)) ∧ Aside0 (kq ≤ k) ∧ Aside0 (wc.heap[gb140]? = some (.cells #[.int .i64 a0_0, .int .i64 a0_1, (.slice A0_2 l0_2.length c0_2)] 27 (0, 0))) ∧ Aside0 (wc.heap[gb141]? = some (.cells #[.int .i64 a1_0, .int .i64 a1_1, (.slice A1_2 l1_2.length c1_2)] 30 (0, 0))) ∧ Aside0 (Below w.heap.size w wc))
 case first =>
  have H := HC3.out; clear HC3; replace H := Option.bind_eq_some_iff.mp H; obtain ⟨t142, A60, H⟩ := H; replace H : (if t142 = true then ((bank_Right.f k a1_0 a1_1 l1_2).bind fun t143 => (bank_Match.j0 k (!t143) a0_0 a0_1 l0_2 a1_0 a1_1 l1_2)) else (bank_Match.j0 k true a0_0 a0_1 l0_2 a1_0 a1_1 l1_2)) = some (r1, r2) := H; have A6 := Aside0.mk A60; clear A60
  by_cases c7 : t142 = true
  ·
   subst c7
   have H1 : ((bank_Right.f k a1_0 a1_1 l1_2).bind fun t143 => (bank_Match.j0 k (!t143) a0_0 a0_1 l0_2 a1_0 a1_1 l1_2)) = some (r1, r2) := by rw [if_pos rfl] at H; exact H
   clear H; have H := H1; clear H1; replace H := Option.bind_eq_some_iff.mp H; obtain ⟨t143, A80, H⟩ := H; replace H : (bank_Match.j0 k (!t143) a0_0 a0_1 l0_2 a1_0 a1_1 l1_2) = some (r1, r2) := H; have A8 := Aside0.mk A80; clear A80; have H' := Aside0.mk H; clear H; have hnb9 := NB140_141.out; have hnc9 := NB141_140.out; obtain ⟨hcz10_0, hcz10_1, hcz10_2⟩ := zC3 BK140; obtain ⟨hfz10_0, hfz10_1, hfz10_2⟩ := zZ3 BK140
   go_wp2_with (first | ((with_reducible refine gate_callee (f := 22) rfl ?_); refine goesL_ (some 13) rfl rfl Tryz.func22 (by kernel_rfl) rfl #[.agg #[.int .i64 a0_0, .int .i64 a0_1, .slice A0_2 l0_2.length c0_2]] rfl (by (try simp only [List.map_toArray, List.map_cons, List.map_nil]); try rfl) ?_; (with_reducible refine (bank_Valid.calls k a0_0 a0_1 _ _ l0_2 true _ ?side1 ?side2 A6.out).mono ?_); (case side1 => repeat (first | exact (Kd.C_below HR0_2.out HB.out) | (with_reducible refine Kd.C_alloc ?_ _) | (with_reducible refine Kd.C_drewN ?_ _) | (with_reducible refine Kd.C_drew ?_))); (case side2 => exact HC0_2.out); rintro e w11 ⟨rfl, hb⟩; refine ⟨_, rfl, ?_⟩; replace BK140 := zKb BK140 hb; replace BK141 := zKb BK141 hb; replace HB := zBs hb; (try clear hb); (try clear hb2); (try clear hk); (try clear hi); obtain ⟨hcz12_0, hcz12_1, hcz12_2⟩ := zC3 BK141; obtain ⟨hfz12_0, hfz12_1, hfz12_2⟩ := zZ3 BK141) | (go_at_call 28; (with_reducible refine (bank_Right.calls k a1_0 a1_1 _ _ l1_2 t143 _ ?side1 ?side2 A8.out).mono ?_); (case side1 => repeat (first | exact (Kd.C_below HR1_2.out HB.out) | (with_reducible refine Kd.C_alloc ?_ _) | (with_reducible refine Kd.C_drewN ?_ _) | (with_reducible refine Kd.C_drew ?_))); (case side2 => exact HC1_2.out); rintro e w13 ⟨rfl, hb⟩; replace BK140 := zKb BK140 hb; replace BK141 := zKb BK141 hb; replace HB := zBs hb; (try clear hb); (try clear hb2); (try clear hk); (try clear hi)))
   go_meet
   case rel => exact ⟨_, (!t143), (by first | rfl | (simp; done) | (simp [*]; done)), H', ⟨by first | omega | exact Nat.le_refl _⟩, ⟨zK BK140⟩, ⟨zK BK141⟩, ⟨zB⟩⟩
  ·
   replace c7 := Bool.eq_false_iff.mpr c7; subst c7
   have H1 : (bank_Match.j0 k true a0_0 a0_1 l0_2 a1_0 a1_1 l1_2) = some (r1, r2) := by rw [if_neg (show ¬ (false = true) by decide)] at H; exact H
   clear H; have H := H1; clear H1; have H' := Aside0.mk H; clear H; have hnb14 := NB140_141.out; have hnc14 := NB141_140.out; obtain ⟨hcz15_0, hcz15_1, hcz15_2⟩ := zC3 BK140; obtain ⟨hfz15_0, hfz15_1, hfz15_2⟩ := zZ3 BK140
   go_wp2_with (first | ((with_reducible refine gate_callee (f := 22) rfl ?_); refine goesL_ (some 13) rfl rfl Tryz.func22 (by kernel_rfl) rfl #[.agg #[.int .i64 a0_0, .int .i64 a0_1, .slice A0_2 l0_2.length c0_2]] rfl (by (try simp only [List.map_toArray, List.map_cons, List.map_nil]); try rfl) ?_; (with_reducible refine (bank_Valid.calls k a0_0 a0_1 _ _ l0_2 false _ ?side1 ?side2 A6.out).mono ?_); (case side1 => repeat (first | exact (Kd.C_below HR0_2.out HB.out) | (with_reducible refine Kd.C_alloc ?_ _) | (with_reducible refine Kd.C_drewN ?_ _) | (with_reducible refine Kd.C_drew ?_))); (case side2 => exact HC0_2.out); rintro e w16 ⟨rfl, hb⟩; refine ⟨_, rfl, ?_⟩; replace BK140 := zKb BK140 hb; replace BK141 := zKb BK141 hb; replace HB := zBs hb; (try clear hb); (try clear hb2); (try clear hk); (try clear hi)))
   go_meet
   case rel => exact ⟨_, (true), (by first | rfl | (simp; done) | (simp [*]; done)), H', ⟨by first | omega | exact Nat.le_refl _⟩, ⟨zK BK140⟩, ⟨zK BK141⟩, ⟨zB⟩⟩
 case rest =>
  clear HC3
  try clear c1
  try clear c2
  try clear p2
  try clear c3
  try clear c7
  try clear c9
  try clear c14
  try clear hcz10_0
  try clear hcz10_1
  try clear hcz10_2
  try clear hcz12_0
  try clear hcz12_1
  try clear hcz12_2
  try clear hcz15_0
  try clear hcz15_1
  try clear hcz15_2
  try clear hfz10_0
  try clear hfz10_1
  try clear hfz10_2
  try clear hfz12_0
  try clear hfz12_1
  try clear hfz12_2
  try clear hfz15_0
  try clear hfz15_1
  try clear hfz15_2
  obtain ⟨kq, x11_2, rfl, HA, HJ2, BK140, BK141, HB⟩ := hcut
  cases kq with
  | zero => exact absurd HA.out (by simp [bank_Match.j0])
  | succ kj2 =>
   have H := HA.out; clear HA
   simp only [bank_Match.j0] at H
   by_cases c17 : x11_2 = true
   ·
    subst c17
    have H1 : (some (([] : List (S47)), 2)) = some (r1, r2) := by rw [if_pos rfl] at H; exact H
    clear H; have H := H1; clear H1
    simp only [Option.some.injEq, Prod.mk.injEq] at H
    obtain ⟨rfl, rfl⟩ := H
    go_wp2
    go_ret2
    exact ⟨_, zE, by first | exact Kd.R_nil _ _ _ _ _ | exact Kd.N_nil _ _ _ _ _ | exact Kd.V_nil _ _ _ _ _ | exact Kd.Q_nil _ _ _ _ _ | exact Kd.S_nil _ _ _ _ _, zB⟩
   ·
    replace c17 := Bool.eq_false_iff.mpr c17; subst c17
    have H1 : (if a0_0 = a1_0 then (if a1_1 < a0_1 then (some (([] : List (S47)), 363)) else (bank_Match.l0 kj2 ([] : List (S47)) l1_2 (l1_2.length : Int) 0 a0_0 a0_1 l0_2)) else (some (([] : List (S47)), 363))) = some (r1, r2) := by rw [if_neg (show ¬ (false = true) by decide)] at H; exact H
    clear H; have H := H1; clear H1
    by_cases c18 : a0_0 = a1_0
    ·
     rw [if_pos c18] at H
     have c18b0 : (a0_0 == a1_0) = true := beq_iff_eq.mpr c18; have c18b1 : (a0_0 != a1_0) = false := bne_eq_false_iff_eq.mpr c18; clear c18
     by_cases c19 : a1_1 < a0_1
     ·
      rw [if_pos c19] at H
      have c19b0 : decide (a1_1 < a0_1) = true := decide_eq_true c19; clear c19
      simp only [Option.some.injEq, Prod.mk.injEq] at H
      obtain ⟨rfl, rfl⟩ := H; have hnb20 := NB140_141.out; have hnc20 := NB141_140.out; obtain ⟨hcz21_0, hcz21_1, hcz21_2⟩ := zC3 BK140; obtain ⟨hfz21_0, hfz21_1, hfz21_2⟩ := zZ3 BK140; obtain ⟨hcz22_0, hcz22_1, hcz22_2⟩ := zC3 BK141; obtain ⟨hfz22_0, hfz22_1, hfz22_2⟩ := zZ3 BK141
      go_wp2
      go_ret2
      exact ⟨_, zE, by first | exact Kd.R_nil _ _ _ _ _ | exact Kd.N_nil _ _ _ _ _ | exact Kd.V_nil _ _ _ _ _ | exact Kd.Q_nil _ _ _ _ _ | exact Kd.S_nil _ _ _ _ _, zB⟩
     ·
      rw [if_neg c19] at H
      have c19b0 : decide (a1_1 < a0_1) = false := decide_eq_false c19; clear c19; have H' := Aside0.mk H; clear H; have hnb23 := NB140_141.out; have hnc23 := NB141_140.out; obtain ⟨hcz24_0, hcz24_1, hcz24_2⟩ := zC3 BK140; obtain ⟨hfz24_0, hfz24_1, hfz24_2⟩ := zZ3 BK140; obtain ⟨hcz25_0, hcz25_1, hcz25_2⟩ := zC3 BK141; obtain ⟨hfz25_0, hfz25_1, hfz25_2⟩ := zZ3 BK141
      go_wp2
      go_loopg [6, 36] kj2 (fun kq v6 v36 w' => ∃ (x6_2 : List (S47)) (x36_2 : Int), v36 = .int .i64 x36_2 ∧ Aside0 (bank_Match.l0 kq x6_2 l1_2 (l1_2.length : Int) x36_2 a0_0 a0_1 l0_2 = some (r1, r2)) ∧ Aside0 (kq ≤ kj2) ∧ Aside0 (Kd.R k47 47 w' w.heap.size (fun _ => True) v6 x6_2) ∧ Aside0 (w'.heap[gb140]? = some (.cells #[.int .i64 a0_0, .int .i64 a0_1, (.slice A0_2 l0_2.length c0_2)] 27 (0, 0))) ∧ Aside0 (w'.heap[gb141]? = some (.cells #[.int .i64 a1_0, .int .i64 a1_1, (.slice A1_2 l1_2.length c1_2)] 30 (0, 0))) ∧ Aside0 (Below w.heap.size w w'))
      case atStart => exact ⟨(([] : List (S47))), (0), (by first | rfl | (simp; done) | (simp [*]; done)), H', ⟨Nat.le_refl _⟩, ⟨by first | exact Kd.R_nil _ _ _ _ _ | exact Kd.N_nil _ _ _ _ _ | exact Kd.V_nil _ _ _ _ _ | exact Kd.Q_nil _ _ _ _ _ | exact Kd.S_nil _ _ _ _ _⟩, ⟨zK BK140⟩, ⟨zK BK141⟩, ⟨zB⟩⟩
      case round =>
       clear H'
       try clear c1
       try clear c2
       try clear p2
       try clear c3
       try clear c7
       try clear c9
       try clear c14
       try clear c17
       try clear c18
       try clear c18b0
       try clear c18b1
       try clear c19
       try clear c19b0
       try clear c20
       try clear c22
       try clear c23
       try clear hcz10_0
       try clear hcz10_1
       try clear hcz10_2
       try clear hcz12_0
       try clear hcz12_1
       try clear hcz12_2
       try clear hcz15_0
       try clear hcz15_1
       try clear hcz15_2
       try clear hcz21_0
       try clear hcz21_1
       try clear hcz21_2
       try clear hcz22_0
       try clear hcz22_1
       try clear hcz22_2
       try clear hcz24_0
       try clear hcz24_1
       try clear hcz24_2
       try clear hcz25_0
       try clear hcz25_1
       try clear hcz25_2
       try clear hfz10_0
       try clear hfz10_1
       try clear hfz10_2
       try clear hfz12_0
       try clear hfz12_1
       try clear hfz12_2
       try clear hfz15_0
       try clear hfz15_1
       try clear hfz15_2
       try clear hfz21_0
       try clear hfz21_1
       try clear hfz21_2
       try clear hfz22_0
       try clear hfz22_1
       try clear hfz22_2
       try clear hfz24_0
       try clear hfz24_1
       try clear hfz24_2
       try clear hfz25_0
       try clear hfz25_1
       try clear hfz25_2
       try clear p2
       obtain ⟨x6_2, x36_2, rfl, HA, HK2, HO_6, BK140, BK141, HB⟩ := hrel
       cases gk with
       | zero => exact absurd HA.out (by simp [bank_Match.l0])
       | succ k2 =>
        have H := HA.out; clear HA
        simp only [bank_Match.l0] at H
        by_cases c26 : x36_2 < (l1_2.length : Int)
        ·
         rw [if_pos c26] at H
         have c26b0 : decide (x36_2 < (l1_2.length : Int)) = true := decide_eq_true c26; clear c26
         by_cases c27 : 0 ≤ x36_2
         ·
          rw [if_pos c27] at H
          have c27b0 : decide (0 ≤ x36_2) = true := decide_eq_true c27; clear c27
          by_cases c28 : x36_2 < (l1_2.length : Int)
          ·
           rw [if_pos c28] at H
           have c28b0 : decide (x36_2 < (l1_2.length : Int)) = true := decide_eq_true c28; clear c28; replace H := Option.bind_eq_some_iff.mp H; obtain ⟨⟨t146, t147⟩, A290, H⟩ := H; replace H : (if t147 = true then (if 0 ≤ t146 then (if t146 < (l0_2.length : Int) then (if x6_2.length < 3518437208883 then (bank_Match.l0 k2 (x6_2 ++ [(⟨(rd_T47 l0_2 t146).f0, (rd_T47 l0_2 t146).f1, (rd_T47 l0_2 t146).f2, (rd_T47 l0_2 t146).f3, (rd_T47 l0_2 t146).f4⟩ : S47)]) l1_2 (l1_2.length : Int) (wrap64 (x36_2 + 1)) a0_0 a0_1 l0_2) else (none)) else (none)) else (none)) else (some (([] : List (S47)), 6))) = some (r1, r2) := H; have A29 := Aside0.mk A290; clear A290
           by_cases c30 : t147 = true
           ·
            subst c30
            have H1 : (if 0 ≤ t146 then (if t146 < (l0_2.length : Int) then (if x6_2.length < 3518437208883 then (bank_Match.l0 k2 (x6_2 ++ [(⟨(rd_T47 l0_2 t146).f0, (rd_T47 l0_2 t146).f1, (rd_T47 l0_2 t146).f2, (rd_T47 l0_2 t146).f3, (rd_T47 l0_2 t146).f4⟩ : S47)]) l1_2 (l1_2.length : Int) (wrap64 (x36_2 + 1)) a0_0 a0_1 l0_2) else (none)) else (none)) else (none)) = some (r1, r2) := by rw [if_pos rfl] at H; exact H
            clear H; have H := H1; clear H1
            by_cases c31 : 0 ≤ t146
            ·
             rw [if_pos c31] at H
             have c31b0 : decide (0 ≤ t146) = true := decide_eq_true c31; clear c31
             by_cases c32 : t146 < (l0_2.length : Int)
             ·
              rw [if_pos c32] at H
              have c32b0 : decide (t146 < (l0_2.length : Int)) = true := decide_eq_true c32; clear c32
              by_cases c33 : x6_2.length < 3518437208883
              ·
               rw [if_pos c33] at H
               have LMc33 := Aside0.mk c33; clear c33
               obtain ⟨y149, hy149⟩ : ∃ y_ : List (S47), y_ = (x6_2 ++ [(⟨(rd_T47 l0_2 t146).f0, (rd_T47 l0_2 t146).f1, (rd_T47 l0_2 t146).f2, (rd_T47 l0_2 t146).f3, (rd_T47 l0_2 t146).f4⟩ : S47)]) := ⟨_, rfl⟩
               replace H : (bank_Match.l0 k2 y149 l1_2 (l1_2.length : Int) (wrap64 (x36_2 + 1)) a0_0 a0_1 l0_2) = some (r1, r2) := by first | (rw [hy149]; with_reducible exact H) | (have H2_ := (Option.bind_some _ _).symm.trans H; rw [hy149]; with_reducible exact H2_) | (have H2_ := (Option.bind_some _ _).symm.trans H; with_reducible exact H2_) | with_reducible exact H | (rw [hy149]; exact H) | exact H
               have Ny149 := Aside0.mk hy149; clear hy149; have H' := Aside0.mk H; clear H; have p144 : 0 ≤ (x36_2 : Int) := zD; have q144 : x36_2 < (l1_2.length : Int) := zD; obtain ⟨ad144, e144, hx144_0, hx144_1⟩ := at_T49 HR1_2.out x36_2 p144 q144
               cases e144
               replace hx144_0 := zL HB hx144_0; replace hx144_1 := zL HB hx144_1; replace p144 := eq_true p144; replace q144 := eq_true q144
               go_wp2_with (first | ((with_reducible refine gate_dst (N := 8) rfl ?_); refine box_event ?hg (N := 8) ?hd (cs := #[.int .i64 0, .int .i64 0]) (t := 49) ?hr ?_; (case hd => rfl); (case hg => rfl); (case hr => first | (go_simp; done) | (go_simp; rfl)); intro gb145 hg w34 hbox hb; replace HO_6 := Aside0.mk (Kd.R_below (zR HO_6) hb); have BK145 := Aside0.mk (hbox); have GW145 := zG (w := w) hg; have GE145 := zG (w := w) hg; replace HB := zBs hb; have NB140_145 := zN hg (zK BK140); have NB145_140 := zM hg (zK BK140); replace BK140 := zKb BK140 hb; have NB141_145 := zN hg (zK BK141); have NB145_141 := zM hg (zK BK141); replace BK141 := zKb BK141 hb; clear hb hbox hg; have hnb35 := NB145_140.out; have hnc35 := NB140_145.out; have hnb36 := NB145_141.out; have hnc36 := NB141_145.out; obtain ⟨hcz37_0, hcz37_1⟩ := zC2 BK145; obtain ⟨hfz37_0, hfz37_1⟩ := zZ2 BK145; have hnb38 := NB140_141.out; have hnc38 := NB141_140.out; obtain ⟨hcz39_0, hcz39_1, hcz39_2⟩ := zC3 BK140; obtain ⟨hfz39_0, hfz39_1, hfz39_2⟩ := zZ3 BK140) | ((with_reducible refine gate_callee (f := 55) rfl ?_); refine goesL_ (some 45) rfl rfl Tryz.func55 (by kernel_rfl) rfl #[.slice A0_2 l0_2.length c0_2, .int .i64 ((rd_T49 l1_2 x36_2).f0), .func (.func 56) #[] #[]] rfl (by (try simp only [List.map_toArray, List.map_cons, List.map_nil]); try rfl) ?_; (with_reducible refine (api_Order_int_at56.calls k2 _ _ l0_2 ((rd_T49 l1_2 x36_2).f0)  t146 true _ ?side1 ?side2 A29.out).mono ?_); (case side1 => exact Kd.C_below HR0_2.out zB); (case side2 => exact HC0_2.out); rintro e w40 ⟨rfl, hb⟩; refine ⟨_, rfl, ?_⟩; replace HO_6 := Aside0.mk (Kd.R_below (by (with_reducible repeat (first | apply Kd.R_alloc | apply Kd.R_drewN | apply Kd.R_drew)); exact (Kd.R_mono (Kd.R_far (p := ⟨gb145, 1, none⟩) (Kd.R_far (p := ⟨gb145, 0, none⟩) (Kd.R_types HO_6.out BK145.out (by decide)) (fun _ hk => hk.2) (.int .i64 ((rd_T49 l1_2 x36_2).f0))) (fun _ hk => hk.2) (.int .i64 ((rd_T49 l1_2 x36_2).f1))) (fun _ h_ => h_.1))) hb); replace BK140 := Aside0.mk (blk_below (zF BK140) hb); replace BK141 := Aside0.mk (blk_below (zF BK141) hb); replace BK145 := Aside0.mk (blk_below (g := gb145) (o := .cells #[.int .i64 ((rd_T49 l1_2 x36_2).f0), .int .i64 ((rd_T49 l1_2 x36_2).f1)] 49 (0, 0)) (by (with_reducible repeat (first | apply blk_drewN | apply blk_drew | apply blk_alloc)); refine blk_put (cs := #[.int .i64 ((rd_T49 l1_2 x36_2).f0), .int .i64 0]) ?_ 1 _ rfl; (with_reducible repeat (first | apply blk_drewN | apply blk_drew | apply blk_alloc)); refine blk_put (cs := #[.int .i64 0, .int .i64 0]) ?_ 0 _ rfl; (with_reducible repeat (first | apply blk_drewN | apply blk_drew | apply blk_alloc)); exact BK145.out) hb); replace HB := zBs hb; (try clear hb); (try clear hb2); (try clear hk); (try clear hi); obtain ⟨hcz41_0, hcz41_1, hcz41_2⟩ := zC3 BK140; obtain ⟨hfz41_0, hfz41_1, hfz41_2⟩ := zZ3 BK140; have p148 : 0 ≤ (t146 : Int) := zD; have q148 : t146 < (l0_2.length : Int) := zD; obtain ⟨ad148, e148, hx148_0, hx148_1, hx148_2, hx148_3, hx148_4⟩ := at_T47 HR0_2.out t146 p148 q148; cases e148; replace hx148_0 := zL HB hx148_0; replace hx148_1 := zL HB hx148_1; replace hx148_2 := zL HB hx148_2; replace hx148_3 := zL HB hx148_3; replace hx148_4 := zL HB hx148_4; replace p148 := eq_true p148; replace q148 := eq_true q148) | ((with_reducible refine gate_builtin (b := .append) (xs := #[.tmp 50, .tmp 56]) rfl ?_); at_builtin; refine Kd.R_append k47 (w0 := w) w.heap.size rfl (.tmp 50) (.tmp 56) 25 47 (.agg #[(.int .i64 0), (.int .i64 0), (.int .i64 0), (.int .i64 0), (.int .i64 0)]) 40 rfl Tryz.underlying25 info47 rfl (by decide) (by omega) u6 x6_2 (⟨(rd_T47 l0_2 t146).f0, (rd_T47 l0_2 t146).f1, (rd_T47 l0_2 t146).f2, (rd_T47 l0_2 t146).f3, (rd_T47 l0_2 t146).f4⟩ : S47) [.int .i64 ((rd_T47 l0_2 t146).f0), .int .i64 ((rd_T47 l0_2 t146).f1), .int .i64 ((rd_T47 l0_2 t146).f2), .int .i64 ((rd_T47 l0_2 t146).f3), .int .i64 ((rd_T47 l0_2 t146).f4)] (fun _ => True) (fun _ => False) rfl rfl ?aP (fun _ hk => hk.elim) ?aF ?aO ?aB ?aS ?aL ?_; (case aP => exact k47_mkM _ _ _ (⟨(rd_T47 l0_2 t146).f0, (rd_T47 l0_2 t146).f1, (rd_T47 l0_2 t146).f2, (rd_T47 l0_2 t146).f3, (rd_T47 l0_2 t146).f4⟩ : S47)); (case aB => exact zB); (case aF => exact (fun _ _ => trivial)); (case aO => exact (zR HO_6)); (case aS => exact (below_size zB)); (case aL => have := LMc33.out; omega); intro v150 w42 ho hb hg hat; rw [← Ny149.out] at ho; replace BK140 := Aside0.mk (blk_grown (g := gb140) (o := .cells #[.int .i64 a0_0, .int .i64 a0_1, .slice (some ad148) l0_2.length c0_2] 27 (0, 0)) (zK BK140) hg (Kd.R_ne HO_6.out BK140.out (by decide))); replace BK141 := Aside0.mk (blk_grown (g := gb141) (o := .cells #[.int .i64 a1_0, .int .i64 a1_1, .slice (some ad144) l1_2.length c1_2] 30 (0, 0)) (zK BK141) hg (Kd.R_ne HO_6.out BK141.out (by decide))); replace BK145 := Aside0.mk (blk_grown (g := gb145) (o := .cells #[.int .i64 ((rd_T49 l1_2 x36_2).f0), .int .i64 ((rd_T49 l1_2 x36_2).f1)] 49 (0, 0)) (zK BK145) hg (Kd.R_ne HO_6.out BK145.out (by decide))); replace HB := Aside0.mk (hb); have HO151 := Aside0.mk (ho); clear HO_6; clear ho hb hg hat))
               go_roundg k2
               case measure => have := HJ2.out; have := HK2.out; omega
               case rel => exact ⟨(y149), (wrap64 (x36_2 + 1)), (by first | rfl | (simp; done) | (simp [*]; done)), H', ⟨by have := HJ2.out; have := HK2.out; omega⟩, ⟨zR HO151⟩, ⟨zK BK140⟩, ⟨zK BK141⟩, ⟨zB⟩⟩
              ·
               rw [if_neg c33] at H
               exact absurd H (by simp)
             ·
              rw [if_neg c32] at H
              exact absurd H (by simp)
            ·
             rw [if_neg c31] at H
             exact absurd H (by simp)
           ·
            replace c30 := Bool.eq_false_iff.mpr c30; subst c30
            have H1 : (some (([] : List (S47)), 6)) = some (r1, r2) := by rw [if_neg (show ¬ (false = true) by decide)] at H; exact H
            clear H; have H := H1; clear H1
            simp only [Option.some.injEq, Prod.mk.injEq] at H
            obtain ⟨rfl, rfl⟩ := H; have p144 : 0 ≤ (x36_2 : Int) := zD; have q144 : x36_2 < (l1_2.length : Int) := zD; obtain ⟨ad144, e144, hx144_0, hx144_1⟩ := at_T49 HR1_2.out x36_2 p144 q144
            cases e144
            replace hx144_0 := zL HB hx144_0; replace hx144_1 := zL HB hx144_1; replace p144 := eq_true p144; replace q144 := eq_true q144
            go_wp2_with (first | ((with_reducible refine gate_dst (N := 8) rfl ?_); refine box_event ?hg (N := 8) ?hd (cs := #[.int .i64 0, .int .i64 0]) (t := 49) ?hr ?_; (case hd => rfl); (case hg => rfl); (case hr => first | (go_simp; done) | (go_simp; rfl)); intro gb145 hg w43 hbox hb; replace HO_6 := Aside0.mk (Kd.R_below (zR HO_6) hb); have BK145 := Aside0.mk (hbox); have GW145 := zG (w := w) hg; have GE145 := zG (w := w) hg; replace HB := zBs hb; have NB140_145 := zN hg (zK BK140); have NB145_140 := zM hg (zK BK140); replace BK140 := zKb BK140 hb; have NB141_145 := zN hg (zK BK141); have NB145_141 := zM hg (zK BK141); replace BK141 := zKb BK141 hb; clear hb hbox hg; have hnb44 := NB145_140.out; have hnc44 := NB140_145.out; have hnb45 := NB145_141.out; have hnc45 := NB141_145.out; obtain ⟨hcz46_0, hcz46_1⟩ := zC2 BK145; obtain ⟨hfz46_0, hfz46_1⟩ := zZ2 BK145; have hnb47 := NB140_141.out; have hnc47 := NB141_140.out; obtain ⟨hcz48_0, hcz48_1, hcz48_2⟩ := zC3 BK140; obtain ⟨hfz48_0, hfz48_1, hfz48_2⟩ := zZ3 BK140) | ((with_reducible refine gate_callee (f := 55) rfl ?_); refine goesL_ (some 45) rfl rfl Tryz.func55 (by kernel_rfl) rfl #[.slice A0_2 l0_2.length c0_2, .int .i64 ((rd_T49 l1_2 x36_2).f0), .func (.func 56) #[] #[]] rfl (by (try simp only [List.map_toArray, List.map_cons, List.map_nil]); try rfl) ?_; (with_reducible refine (api_Order_int_at56.calls k2 _ _ l0_2 ((rd_T49 l1_2 x36_2).f0)  t146 false _ ?side1 ?side2 A29.out).mono ?_); (case side1 => exact Kd.C_below HR0_2.out zB); (case side2 => exact HC0_2.out); rintro e w49 ⟨rfl, hb⟩; refine ⟨_, rfl, ?_⟩; replace HO_6 := Aside0.mk (Kd.R_below (by (with_reducible repeat (first | apply Kd.R_alloc | apply Kd.R_drewN | apply Kd.R_drew)); exact (Kd.R_mono (Kd.R_far (p := ⟨gb145, 1, none⟩) (Kd.R_far (p := ⟨gb145, 0, none⟩) (Kd.R_types HO_6.out BK145.out (by decide)) (fun _ hk => hk.2) (.int .i64 ((rd_T49 l1_2 x36_2).f0))) (fun _ hk => hk.2) (.int .i64 ((rd_T49 l1_2 x36_2).f1))) (fun _ h_ => h_.1))) hb); replace BK140 := Aside0.mk (blk_below (zF BK140) hb); replace BK141 := Aside0.mk (blk_below (zF BK141) hb); replace BK145 := Aside0.mk (blk_below (g := gb145) (o := .cells #[.int .i64 ((rd_T49 l1_2 x36_2).f0), .int .i64 ((rd_T49 l1_2 x36_2).f1)] 49 (0, 0)) (by (with_reducible repeat (first | apply blk_drewN | apply blk_drew | apply blk_alloc)); refine blk_put (cs := #[.int .i64 ((rd_T49 l1_2 x36_2).f0), .int .i64 0]) ?_ 1 _ rfl; (with_reducible repeat (first | apply blk_drewN | apply blk_drew | apply blk_alloc)); refine blk_put (cs := #[.int .i64 0, .int .i64 0]) ?_ 0 _ rfl; (with_reducible repeat (first | apply blk_drewN | apply blk_drew | apply blk_alloc)); exact BK145.out) hb); replace HB := zBs hb; (try clear hb); (try clear hb2); (try clear hk); (try clear hi)))
            go_ret2
            exact ⟨_, zE, by first | exact Kd.R_nil _ _ _ _ _ | exact Kd.N_nil _ _ _ _ _ | exact Kd.V_nil _ _ _ _ _ | exact Kd.Q_nil _ _ _ _ _ | exact Kd.S_nil _ _ _ _ _, zB⟩
          ·
           rw [if_neg c28] at H
           exact absurd H (by simp)
         ·
          rw [if_neg c27] at H
          exact absurd H (by simp)
        ·
         rw [if_neg c26] at H
         have c26b0 : decide (x36_2 < (l1_2.length : Int)) = false := decide_eq_false c26; clear c26
         simp only [Option.some.injEq, Prod.mk.injEq] at H
         obtain ⟨rfl, rfl⟩ := H
         go_wp2
         go_ret2
         exact ⟨_, zE, zR HO_6, zB⟩
    ·
     rw [if_neg c18] at H
     have c18b0 : (a0_0 == a1_0) = false := beq_eq_false_iff_ne.mpr c18; have c18b1 : (a0_0 != a1_0) = true := bne_iff_ne.mpr c18
     simp only [Option.some.injEq, Prod.mk.injEq] at H
     obtain ⟨rfl, rfl⟩ := H; have hnb50 := NB140_141.out; have hnc50 := NB141_140.out; obtain ⟨hcz51_0, hcz51_1, hcz51_2⟩ := zC3 BK140; obtain ⟨hfz51_0, hfz51_1, hfz51_2⟩ := zZ3 BK140; obtain ⟨hcz52_0, hcz52_1, hcz52_2⟩ := zC3 BK141; obtain ⟨hfz52_0, hfz52_1, hfz52_2⟩ := zZ3 BK141
     go_wp2
     go_ret2
     exact ⟨_, zE, by first | exact Kd.R_nil _ _ _ _ _ | exact Kd.N_nil _ _ _ _ _ | exact Kd.V_nil _ _ _ _ _ | exact Kd.Q_nil _ _ _ _ _ | exact Kd.S_nil _ _ _ _ _, zB⟩
end Go.Proofs.YtndojpcjhkncgaaGreatDoor.Q
end

section

end

section
namespace Go.Proofs.YtndojpcjhkncgaaGreatDoor.Q
open Go.RowKit Go.Proofs.YtndojpcjhkncgaaGreatDoorW.PrintWords
set_option linter.unusedVariables false
set_option linter.unusedSimpArgs false
def Inc (L : List S47) : Prop := L.Pairwise fun a b => a.f0 < b.f0
theorem inc_of : ∀ (l : List S47) (last tot : Int), ordersB last tot l = true → Inc l ∧ (∀ o ∈ l, last < o.f0) ∧ ∀ o ∈ l, 1 ≤ o.f0 ∧ o.f0 ≤ 1099511627776
  | [], _, _, _ => ⟨List.Pairwise.nil, by simp, by simp⟩
  | x :: l, last, tot, h => by
    simp only [ordersB, Bool.and_eq_true, decide_eq_true_eq] at h
    obtain ⟨h1, h2, h3⟩ := inc_of l _ _ h.2.2.2
    have hn := orderB_net h.1
    refine ⟨List.Pairwise.cons h2 h1, ?_, ?_⟩
    · intro o ho
      rcases List.mem_cons.mp ho with rfl | ho
      · exact h.2.1
      · have := h2 o ho; have := h.2.1; omega
    · intro o ho
      rcases List.mem_cons.mp ho with rfl | ho
      · omega
      · exact h3 o ho
def withN (L : List S47) (t : Int) : List S47 := L.filter fun o => o.f0 == t
theorem with_one : ∀ (L : List S47), Inc L → ∀ (i : Nat) (h : i < L.length), withN L L[i].f0 = [L[i]]
  | [], _, i, h => by simp at h
  | x :: l, hI, i, h => by
    obtain ⟨h1, h2⟩ := List.pairwise_cons.mp hI
    cases i with
    | zero =>
      have : withN l x.f0 = [] := by
        unfold withN
        rw [List.filter_eq_nil_iff]
        intro o ho
        have := h1 o ho
        simp; omega
      simp only [List.getElem_cons_zero]
      unfold withN at this ⊢
      rw [List.filter_cons, this]
      simp
    | succ i =>
      have hl : i < l.length := by simpa using h
      have := h1 l[i] (List.getElem_mem hl)
      simp only [List.getElem_cons_succ]
      have ih := with_one l h2 i hl
      unfold withN at ih ⊢
      rw [List.filter_cons, ih]
      rw [if_neg (by simp; omega)]
theorem with_none {L : List S47} {t : Int} (h : ∀ o ∈ L, o.f0 ≠ t) : withN L t = [] := by
  unfold withN
  rw [List.filter_eq_nil_iff]
  intro o ho
  simpa using h o ho
theorem with_le (L : List S47) (hI : Inc L) (t : Int) : (withN L t).length ≤ 1 := by
  by_cases h : ∃ i, ∃ h : i < L.length, L[i].f0 = t
  · obtain ⟨i, hi, rfl⟩ := h
    rw [with_one L hI i hi]; simp
  · rw [with_none]; simp
    intro o ho he
    obtain ⟨i, hi, rfl⟩ := List.getElem_of_mem ho
    exact h ⟨i, hi, he⟩
theorem inc_lt {L : List S47} (hI : Inc L) {i j : Nat} (hij : i < j) (hj : j < L.length) : L[i].f0 < L[j].f0 := List.pairwise_iff_getElem.mp hI i j (by omega) hj hij
def Found (L : List S47) (t : Int) (r : Int × Bool) : Prop :=
  (∃ i : Nat, ∃ h : i < L.length, r = ((i : Int), true) ∧ L[i].f0 = t) ∨ (r.2 = false ∧ ∀ o ∈ L, o.f0 ≠ t)
theorem bs_l0 (L : List S47) (hI : Inc L) (hb : ∀ o ∈ L, 1 ≤ o.f0 ∧ o.f0 ≤ 1099511627776) (hL : L.length ≤ 1000) (t : Int) (ht : 1 ≤ t ∧ t ≤ 1099511627776) (d : Nat) : ∀ (lo hi : Nat), lo ≤ hi → hi ≤ L.length → hi - lo ≤ d →
    (∀ j (h : j < L.length), j < lo → L[j].f0 < t) → (∀ j (h : j < L.length), hi ≤ j → t ≤ L[j].f0) → ∃ r, Found L t r ∧ Ev (fun k => api_Order_int_at56.l0 k L t (L.length : Int) (lo : Int) (hi : Int)) r := by
  induction d with
  | zero =>
    intro lo hi h1 h2 h3 hlo hhi
    obtain rfl : lo = hi := by omega
    by_cases hn : lo < L.length
    · have hm := hb L[lo] (List.getElem_mem hn)
      have hge := hhi lo hn (Nat.le_refl _)
      by_cases he : L[lo].f0 = t
      · refine ⟨((lo : Int), true), .inl ⟨lo, hn, rfl, he⟩, Ev.step (fun k => by rw [api_Order_int_at56.l0]) (Ev.neg (by omega) (Ev.pos (by omega) (Ev.pos (by omega) (Ev.pos (by omega) ?_))))⟩
        rw [rdT L lo hn]
        refine Ev.const (show bank_Match_1.f _ _ _ _ _ _ = some _ from rfl) (Ev.ret ?_)
        rw [he, Int.sub_self, w64 (by omega) (by omega)]
        rfl
      · refine ⟨((lo : Int), false), .inr ⟨rfl, ?_⟩, Ev.step (fun k => by rw [api_Order_int_at56.l0]) (Ev.neg (by omega) (Ev.pos (by omega) (Ev.pos (by omega) (Ev.pos (by omega) ?_))))⟩
        · intro o ho hot
          obtain ⟨j, hj, rfl⟩ := List.getElem_of_mem ho
          rcases Nat.lt_trichotomy j lo with h | h | h
          · have := hlo j hj h; omega
          · subst h; exact he hot
          · have := inc_lt hI h hj; omega
        · rw [rdT L lo hn]
          refine Ev.const (show bank_Match_1.f _ _ _ _ _ _ = some _ from rfl) (Ev.ret ?_)
          rw [w64 (by omega) (by omega)]
          have : (L[lo].f0 - t == 0) = false := by simp; omega
          rw [this]
    · refine ⟨((lo : Int), false), .inr ⟨rfl, ?_⟩, Ev.step (fun k => by rw [api_Order_int_at56.l0]) (Ev.neg (by omega) (Ev.neg (by omega) (Ev.now _)))⟩
      intro o ho hot
      obtain ⟨j, hj, rfl⟩ := List.getElem_of_mem ho
      have := hlo j hj (by omega)
      omega
  | succ d ih =>
    intro lo hi h1 h2 h3 hlo hhi
    by_cases hlt : lo < hi
    · have hm : wrap64 ((IntKind.u64.wrap (wrap64 ((lo : Int) + (hi : Int)))) / 2) = (((lo + hi) / 2 : Nat) : Int) := by
        rw [w64 (n := (lo : Int) + (hi : Int)) (by omega) (by omega), IntKind.wrap_u64, w64 (by omega) (by omega)]
        omega
      have hml : (lo + hi) / 2 < L.length := by omega
      obtain ⟨m, hmm⟩ : ∃ m, (lo + hi) / 2 = m := ⟨_, rfl⟩
      rw [hmm] at hm hml
      have hb' := hb L[m] (List.getElem_mem hml)
      by_cases hc : L[m].f0 < t
      · obtain ⟨r, hr, he⟩ := ih (m + 1) hi (by omega) h2 (by omega) (fun j hj hjl => by
          rcases Nat.lt_or_ge j m with h | h
          · have := inc_lt hI h hml; omega
          · obtain rfl : j = m := by omega
            exact hc) hhi
        refine ⟨r, hr, Ev.step (fun k => by rw [api_Order_int_at56.l0]) (Ev.pos (by omega) ?_)⟩
        rw [hm]
        refine Ev.pos (by omega) (Ev.pos (by omega) ?_)
        rw [rdT L m hml]
        refine Ev.const (show bank_Match_1.f _ _ _ _ _ _ = some _ from rfl) ?_
        rw [w64 (n := L[m].f0 - t) (by omega) (by omega), w64 (n := (m : Int) + 1) (by omega) (by omega)]
        exact Ev.pos (by omega) he
      · obtain ⟨r, hr, he⟩ := ih lo m (by omega) (by omega) (by omega) hlo (fun j hj hjl => by
          rcases Nat.lt_or_ge m j with h | h
          · have := inc_lt hI h hj; omega
          · obtain rfl : j = m := by omega
            omega)
        refine ⟨r, hr, Ev.step (fun k => by rw [api_Order_int_at56.l0]) (Ev.pos (by omega) ?_)⟩
        rw [hm]
        refine Ev.pos (by omega) (Ev.pos (by omega) ?_)
        rw [rdT L m hml]
        refine Ev.const (show bank_Match_1.f _ _ _ _ _ _ = some _ from rfl) ?_
        rw [w64 (n := L[m].f0 - t) (by omega) (by omega)]
        exact Ev.neg (by omega) he
    · exact ih lo hi h1 h2 (by omega) hlo hhi
theorem bs_ev (L : List S47) (hI : Inc L) (hb : ∀ o ∈ L, 1 ≤ o.f0 ∧ o.f0 ≤ 1099511627776) (hL : L.length ≤ 1000) (t : Int) (ht : 1 ≤ t ∧ t ≤ 1099511627776) : ∃ r, Found L t r ∧ Ev (fun k => api_Order_int_at56.f k L t) r := by
  unfold api_Order_int_at56.f
  exact bs_l0 L hI hb hL t ht L.length 0 L.length (by omega) (by omega) (by omega) (by omega) (by omega)
def picked (L : List S47) (R : List S49) : List S47 := R.flatMap fun r => withN L r.f0
theorem picked_le (L : List S47) (hI : Inc L) : ∀ (R : List S49), (picked L R).length ≤ R.length
  | [] => by simp [picked]
  | r :: R => by
    have h1 := picked_le L hI R
    have h2 := with_le L hI r.f0
    unfold picked at h1 ⊢
    rw [List.flatMap_cons, List.length_append, List.length_cons]
    omega
def pickS (L : List S47) (R : List S49) : List S47 × Int := if (picked L R).length = R.length then (picked L R, 0) else ([], 6)
theorem match_l0 (L : List S47) (n1 d1 : Int) (hI : Inc L) (hb : ∀ o ∈ L, 1 ≤ o.f0 ∧ o.f0 ≤ 1099511627776) (hL : L.length ≤ 1000) (R : List S49) (hR : R.length ≤ 1000) (hr : ∀ r ∈ R, 1 ≤ r.f0 ∧ r.f0 ≤ 1099511627776) (d : Nat) : ∀ (i : Nat) (pre : List S47), i + d = R.length → pre.length = i →
    Ev (fun k => bank_Match.l0 k pre R (R.length : Int) (i : Int) n1 d1 L) (if (picked L (R.drop i)).length = d then (pre ++ picked L (R.drop i), 0) else ([], 6)) := by
  induction d with
  | zero =>
    intro i pre hi hp
    rw [List.drop_eq_nil_of_le (by omega)]
    exact Ev.step (fun k => by rw [bank_Match.l0]) (Ev.neg (by omega) (Ev.ret (by simp [picked])))
  | succ d ih =>
    intro i pre hi hp
    have hlt : i < R.length := by omega
    rw [drop_get R i hlt]
    refine Ev.step (fun k => by rw [bank_Match.l0]) (Ev.pos (by omega) (Ev.pos (by omega) (Ev.pos (by omega) ?_)))
    rw [rdR R i hlt]
    obtain ⟨r, hf, he⟩ := bs_ev L hI hb hL R[i].f0 (hr _ (List.getElem_mem hlt))
    refine Ev.bind he ?_
    rcases hf with ⟨j, hj, rfl, hjt⟩ | ⟨h2, hno⟩
    · refine Ev.pos rfl (Ev.pos (by show (0 : Int) ≤ (j : Int); omega) (Ev.pos (by show (j : Int) < _; omega) (Ev.pos (by omega) ?_)))
      show Ev (fun k => bank_Match.l0 k (pre ++ [⟨(rd_T47 L (j : Int)).f0, (rd_T47 L (j : Int)).f1, (rd_T47 L (j : Int)).f2, (rd_T47 L (j : Int)).f3, (rd_T47 L (j : Int)).f4⟩]) R (R.length : Int) (wrap64 ((i : Int) + 1)) n1 d1 L) _
      rw [rdT L j hj, w64 (by omega) (by omega)]
      refine Ev.eq (ih (i + 1) (pre ++ [L[j]]) (by omega) (by simp; omega)) ?_
      have hw : withN L R[i].f0 = [L[j]] := by rw [← hjt]; exact with_one L hI j hj
      have e1 : (picked L (R[i] :: R.drop (i + 1))) = [L[j]] ++ picked L (R.drop (i + 1)) := by unfold picked; rw [List.flatMap_cons, hw]
      rw [e1]
      simp only [List.length_append, List.length_cons, List.length_nil]
      by_cases hc : (picked L (R.drop (i + 1))).length = d
      · rw [if_pos hc, if_pos (by omega), List.append_assoc]
      · rw [if_neg hc, if_neg (by omega)]
    · refine Ev.neg (by rw [h2]; simp) (Ev.ret ?_)
      have e1 : (picked L (R[i] :: R.drop (i + 1))) = picked L (R.drop (i + 1)) := by unfold picked; rw [List.flatMap_cons, with_none hno]; rfl
      have := picked_le L hI (R.drop (i + 1))
      rw [List.length_drop] at this
      rw [e1, if_neg (by omega)]
def matchS (n1 d1 : Int) (L : List S47) (n2 d2 : Int) (R : List S49) : List S47 × Int :=
  if validB n1 d1 L = true ∧ rightB n2 d2 R = true then (if n1 = n2 ∧ d1 ≤ d2 then pickS L R else ([], 363)) else ([], 2)
theorem backs_num : ∀ (l : List S49) (last : Int), backsB last l = true → ∀ o ∈ l, 1 ≤ o.f0 ∧ o.f0 ≤ 1099511627776
  | [], _, _, o, ho => by cases ho
  | x :: l, last, h, o, ho => by
    simp only [backsB, backB, countB, Bool.and_eq_true, decide_eq_true_eq] at h
    rcases List.mem_cons.mp ho with rfl | ho
    · omega
    · exact backs_num l _ h.2.2 o ho
theorem right_parts' {n d : Int} {L : List S49} (h : rightB n d L = true) : backsB 0 L = true ∧ datedB n d = true ∧ (L.length : Int) ≤ 1000 := by
  simp only [rightB, Bool.and_eq_true, decide_eq_true_eq] at h
  exact h
theorem sm0 (n1 d1 : Int) (L : List S47) (n2 d2 : Int) (R : List S49) : Ev (fun k => bank_Match.j0 k true n1 d1 L n2 d2 R) ([], 2) := by
  refine Ev.step (fun k => by rw [bank_Match.j0]) ?_
  refine Ev.pos rfl ?_
  exact Ev.ret rfl
theorem Match_ev (n1 d1 : Int) (L : List S47) (n2 d2 : Int) (R : List S49) (hL : (L.length : Int) ≤ 4611686018427387904) (hR : (R.length : Int) ≤ 4611686018427387904) : Ev (fun k => bank_Match.f k n1 d1 L n2 d2 R) (matchS n1 d1 L n2 d2 R) := by
  unfold bank_Match.f matchS
  refine Ev.bind (Valid_ev n1 d1 L hL) ?_
  cases h : validB n1 d1 L with
  | false => exact Ev.neg (by simp) (Ev.eq (sm0 n1 d1 L n2 d2 R) (by simp))
  | true =>
    refine Ev.pos rfl (Ev.bind (Right_ev n2 d2 R hR) ?_)
    cases h2 : rightB n2 d2 R with
    | false => exact Ev.eq (sm0 n1 d1 L n2 d2 R) (by simp)
    | true =>
      refine Ev.step (fun k => by rw [bank_Match.j0]) (Ev.neg (by simp) ?_)
      simp only [true_and, and_self, if_true]
      by_cases h3 : n1 = n2
      · refine Ev.pos h3 ?_
        by_cases h4 : d2 < d1
        · exact Ev.pos h4 (Ev.ret (by rw [if_neg (by omega)]))
        · refine Ev.neg h4 ?_
          rw [if_pos (by omega)]
          have hv := valid_orders h
          have hr := right_parts' h2
          have hi := inc_of L 0 0 hv.2.2
          refine Ev.eq (match_l0 L n1 d1 hi.1 hi.2.2 (by omega) R (by omega) (backs_num R 0 hr.1) R.length 0 [] (by omega) rfl) ?_
          simp [pickS]
      · exact Ev.neg h3 (Ev.ret (by rw [if_neg (by omega)]))
end Go.Proofs.YtndojpcjhkncgaaGreatDoor.Q
end

section
namespace Go.Proofs.YtndojpcjhkncgaaGreatDoor.Q
open Go Go.RowKit
set_option linter.unusedVariables false
set_option linter.unusedSimpArgs false
structure GG (w : World) : Prop where
  pow : Lib.TabIs Tryz.prog w "internal/strconv.uint64pow10" .u64 Lib.pow10Tab
  low : Lib.TabIs Tryz.prog w "math/bits.deBruijn64tab" .u8 (Lib.deBruijn64tab.map fun (n : Nat) => (n : Int))
  syn : ∃ ev, w.cell? ⟨2, 0, none⟩ = some ev ∧ (ev = .nilIface ∨ ∃ te pe, ev = .iface te pe)
  rng : ∃ ev, w.cell? ⟨3, 0, none⟩ = some ev ∧ (ev = .nilIface ∨ ∃ te pe, ev = .iface te pe)
  max : ∃ m, w.cell? ⟨1, 0, none⟩ = some (.int .i64 m)
theorem named_pow : Tryz.prog.globalNamed "internal/strconv.uint64pow10" = some 0 := by kernel_rfl
theorem named_low : Tryz.prog.globalNamed "math/bits.deBruijn64tab" = some 7 := by kernel_rfl
theorem gcell {w w1 : World} {a : Addr} {v : Value} (h : w.cell? a = some v) (hb : Below w.heap.size w w1) : w1.cell? a = some v := (hb.cell (World.block_lt_of_cell? w a h)).trans h
theorem GG.below {w w1 : World} (h : GG w) (hb : Below w.heap.size w w1) : GG w1 where
  pow := Joins.tab_stays named_pow h.pow hb (Nat.le_refl _)
  low := Joins.tab_stays named_low h.low hb (Nat.le_refl _)
  syn := let ⟨ev, h1, h2⟩ := h.syn; ⟨ev, gcell h1 hb, h2⟩
  rng := let ⟨ev, h1, h2⟩ := h.rng; ⟨ev, gcell h1 hb, h2⟩
  max := let ⟨m, h1⟩ := h.max; ⟨m, gcell h1 hb⟩
end Go.Proofs.YtndojpcjhkncgaaGreatDoor.Q
end

section
namespace Go.Proofs.YtndojpcjhkncgaaGreatDoor.Q
open Go Go.RowKit
set_option linter.unusedVariables false
set_option linter.unusedSimpArgs false
theorem sizeBuilder : (Tryz.prog.info? 100).map (·.size) = some 2 := by kernel_rfl
theorem liesBuilder : liesAt Tryz.prog Tryz.prog.depth 100 (2 / Tryz.prog.cellsOf 100) 0 100 1 = true := by kernel_rfl
theorem infoByte : (Tryz.prog.info? 5).map (fun i => (i.zero, i.size, i.bytes)) = some (some (.int .u8 0), 1, 1) := by kernel_rfl
set_option maxRecDepth 100000 in
theorem copyCheck_fresh (b : Nat) (w : World) (h0 : w.cell? ⟨b, 0, none⟩ = some (.pointer none)) (hsh : w.shape? b = some (100, 2)) (hfz : w.frozen? ⟨b, 0, none⟩ = false) :
    Calls Tryz.prog 72 #[.pointer (some ⟨b, 0, none⟩)] w fun e w' => e = .returned (.tuple #[]) ∧ w' = w.setCell ⟨b, 0, none⟩ (.pointer (some ⟨b, 0, none⟩)) := by
  obtain ⟨j, hj, hjs⟩ := Option.map_eq_some_iff.1 sizeBuilder
  go_enter Tryz.func72, Tryz.ntmps72
  go_wp2
  rw [Lib.run_to_unsafe w ⟨b, 0, none⟩ Tryz.underlying98 Tryz.underlying123 hj (by rw [hjs]; decide) hsh (Nat.zero_lt_succ 1)]
  simp only [Result.andThen]
  rw [Oper.upon_value]
  go_wp2
  rw [run_callFunc_extern Tryz.func81 (by kernel_rfl) (by kernel_rfl) (by kernel_rfl) (e := Extern.AbiNoEscape.same) (by kernel_rfl)]
  rw [Lib.run_noEscape]
  simp only [Result.andThen]
  rw [Oper.upon_value]
  go_wp2
  rw [Lib.run_from_unsafe w ⟨b, 0, none⟩ Tryz.underlying123 Tryz.underlying98 hj hsh liesBuilder]
  simp only [Result.andThen]
  rw [Oper.upon_value]
  go_wp2
  go_end0
  exact ⟨rfl, rfl⟩
set_option maxRecDepth 100000 in
theorem copyCheck_used (b : Nat) (w : World) (h0 : w.cell? ⟨b, 0, none⟩ = some (.pointer (some ⟨b, 0, none⟩))) :
    Calls Tryz.prog 72 #[.pointer (some ⟨b, 0, none⟩)] w fun e w' => e = .returned (.tuple #[]) ∧ w' = w := by
  obtain ⟨j, hj, _⟩ := Option.map_eq_some_iff.1 sizeBuilder
  go_enter Tryz.func72, Tryz.ntmps72
  go_wp2
  rw [Lib.run_neq_ptr_same w _ Tryz.underlying98 hj]
  go_wp2
  go_end0
  exact ⟨rfl, rfl⟩
theorem copyCheck_k (B b : Nat) (bs : List Value) (w : World) (h : Lib.IsBuilderF 100 5 B b bs w) :
    Calls Tryz.prog 72 #[.pointer (some ⟨b, 0, none⟩)] w fun e w' => e = .returned (.tuple #[]) ∧ (Lib.BuilderAtF 100 5 B b (.pointer (some ⟨b, 0, none⟩)) bs w' ∧ Below B w w' ∧ Lib.OthersKept 5 (some b) w w') := by
  rcases h with h | h
  · refine (copyCheck_fresh b w h.cell0 h.shape h.frozen0).mono ?_
    rintro e w' ⟨rfl, rfl⟩
    exact ⟨rfl, h.used _, (Below.refl B w).setCell (p := ⟨b, 0, none⟩) h.1 _, (Lib.OthersKept.refl _ _ w).setCell ⟨b, 0, none⟩ rfl _⟩
  · refine (copyCheck_used b w h.cell0).mono ?_
    rintro e w' ⟨rfl, rfl⟩
    exact ⟨rfl, h, Below.refl B _, Lib.OthersKept.refl _ _ _⟩
theorem neB : (100 : Nat) ≠ 5 := by decide
set_option maxHeartbeats 1000000 in
set_option maxRecDepth 100000 in
theorem WriteByte_k (B b : Nat) (bs : List Value) (c : Int) (w : World) (h : Lib.IsBuilderF 100 5 B b bs w) (hlen : bs.length + 1 ≤ 140737488355328) (hBw : B ≤ w.heap.size) :
    Calls Tryz.prog 61 #[.pointer (some ⟨b, 0, none⟩), .int .u8 c] w fun e w' => e = .returned .nilIface ∧ (Lib.BuilderAtF 100 5 B b (.pointer (some ⟨b, 0, none⟩)) (bs ++ [.int .u8 c]) w' ∧ Below B w w' ∧ Lib.OthersKept 5 (some b) w w') := by
  obtain ⟨i0, hi, hz0, hz1, hz2⟩ := info_parts infoByte
  have hCC := Lib.hid (copyCheck_k B b bs w h)
  clear h
  go_enter Tryz.func61, Tryz.ntmps61
  go_wp2_with (go_at_call 72; refine hCC.out.mono ?_)
  rintro e w1 ⟨rfl, h1, hb1, hk1⟩
  obtain ⟨hB, v, hbk, hown, hne⟩ := h1
  have c0 : w1.cell? ⟨b, 0, none⟩ = some (.pointer (some ⟨b, 0, none⟩)) := by rw [Lib.cell_of_heap hbk]; rfl
  have c1 : w1.cell? ⟨b, 1, none⟩ = some v := by rw [Lib.cell_of_heap hbk]; rfl
  go_wp2_with (at_builtin; refine wpList_append_ownF _ rfl _ _ 53 rfl B 5 i0 (.int .u8 0) 1 1 Tryz.underlying53 hi hz0 hz1 hz2 rfl (by decide) _ _ _ rfl (hown.alloc _) ⟨w1.heap.size, 0, none⟩ 1 1 [.int .u8 c] rfl rfl ?c1 ?c2 ?c3 ?c4 ?c5 ?_)
  case c1 =>
    intro j u hj
    match j, hj with
    | 0, hj => simp at hj; subst hj; simp [Addr.add]
  case c2 => intro u hu; simp at hu; subst hu; rfl
  case c3 => unfold maxLen; omega
  case c4 => omega
  case c5 => have := hb1.size; simp; omega
  intro v' w2 hown' hgrow _
  have hlt : b < w1.heap.size := by
    rcases Nat.lt_or_ge b w1.heap.size with h' | h'
    · exact h'
    · simp [Array.getElem?_eq_none h'] at hbk
  have hb2 : w2.heap[b]? = some (.cells #[.pointer (some ⟨b, 0, none⟩), v] 100 (0, 0)) := by
    rw [hgrow.block b (by simp; omega) (fun e => hne e.symm), Lib.alloc_old w1 _ b hlt]
    exact hbk
  have d0 : w2.cell? ⟨b, 0, none⟩ = some (.pointer (some ⟨b, 0, none⟩)) := by rw [Lib.cell_of_heap hb2]; rfl
  have d1 : w2.cell? ⟨b, 1, none⟩ = some v := by rw [Lib.cell_of_heap hb2]; rfl
  have f1 : w2.frozen? ⟨b, 1, none⟩ = false := Lib.frozen_of_heap hb2 1
  obtain ⟨g, cap, rfl⟩ : ∃ g cap, v' = .slice (some ⟨g, 0, none⟩) (bs.length + 1) cap := by
    rcases hown'.2 with ⟨_, h0⟩ | ⟨g, cap, cur, fz, hv, _⟩
    · omega
    · exact ⟨g, cap, hv⟩
  go_wp2
  go_ret
  refine ⟨rfl, ?_, ?_, ((hk1.alloc _).grown hgrow (Lib.ownsRowF_kind (hown.alloc _))).setCell ⟨b, 1, none⟩ rfl _⟩
  · exact Lib.BuilderAtF.put (T := 100) (e := 5) hB hb2 (bs' := bs ++ [.int .u8 c]) (by simpa using hown') neB
  · exact ((hb1.alloc (by have := hb1.size; omega) _).grown hgrow (by have := hb1.size; simp; omega) (fun k hk => (hown.lt k hk).1)).setCell (p := ⟨b, 1, none⟩) hB _
set_option maxHeartbeats 1000000 in
set_option maxRecDepth 100000 in
theorem WriteString_k (B b : Nat) (bs : List Value) (s : ByteArray) (w : World) (h : Lib.IsBuilderF 100 5 B b bs w) (hlen : bs.length + s.size ≤ 140737488355328) (hBw : B ≤ w.heap.size) :
    Calls Tryz.prog 60 #[.pointer (some ⟨b, 0, none⟩), .string s] w fun e w' => e = .returned (.tuple #[.int .i64 s.size, .nilIface]) ∧ (Lib.BuilderAtF 100 5 B b (.pointer (some ⟨b, 0, none⟩)) (bs ++ Lib.strCells s) w' ∧ Below B w w' ∧ Lib.OthersKept 5 (some b) w w') := by
  obtain ⟨i0, hi, hz0, hz1, hz2⟩ := info_parts infoByte
  have hCC := Lib.hid (copyCheck_k B b bs w h)
  clear h
  go_enter Tryz.func60, Tryz.ntmps60
  go_wp2_with (go_at_call 72; refine hCC.out.mono ?_)
  rintro e w1 ⟨rfl, h1, hb1, hk1⟩
  obtain ⟨hB, v, hbk, hown, hne⟩ := h1
  have c0 : w1.cell? ⟨b, 0, none⟩ = some (.pointer (some ⟨b, 0, none⟩)) := by rw [Lib.cell_of_heap hbk]; rfl
  have c1 : w1.cell? ⟨b, 1, none⟩ = some v := by rw [Lib.cell_of_heap hbk]; rfl
  go_wp2_with (at_builtin; refine Lib.wpList_append_own_stringF _ rfl _ _ 53 9 rfl B 5 i0 Tryz.underlying53 Tryz.underlying9 hi hz0 hz1 hz2 _ _ _ rfl hown s rfl ?c3 ?c4 ?c5 ?_)
  case c3 => unfold maxLen; omega
  case c4 => omega
  case c5 => have := hb1.size; omega
  intro v' w2 hown' hgrow _
  have hlt : b < w1.heap.size := by
    rcases Nat.lt_or_ge b w1.heap.size with h' | h'
    · exact h'
    · simp [Array.getElem?_eq_none h'] at hbk
  have hb2 : w2.heap[b]? = some (.cells #[.pointer (some ⟨b, 0, none⟩), v] 100 (0, 0)) := by
    rw [hgrow.block b hlt (fun e => hne e.symm)]
    exact hbk
  have d0 : w2.cell? ⟨b, 0, none⟩ = some (.pointer (some ⟨b, 0, none⟩)) := by rw [Lib.cell_of_heap hb2]; rfl
  have d1 : w2.cell? ⟨b, 1, none⟩ = some v := by rw [Lib.cell_of_heap hb2]; rfl
  have f1 : w2.frozen? ⟨b, 1, none⟩ = false := Lib.frozen_of_heap hb2 1
  obtain ⟨ao, n', cap, rfl⟩ : ∃ ao n' cap, v' = .slice ao n' cap := by
    rcases hown'.2 with ⟨hv, _⟩ | ⟨g, cap, cur, fz, hv, _⟩
    · exact ⟨_, _, _, hv⟩
    · exact ⟨_, _, _, hv⟩
  go_wp2
  go_ret2
  refine ⟨rfl, ?_, ?_, (hk1.grown hgrow (Lib.ownsRowF_kind hown)).setCell ⟨b, 1, none⟩ rfl _⟩
  · exact Lib.BuilderAtF.put (T := 100) (e := 5) hB hb2 (bs' := bs ++ Lib.strCells s) (by simpa [Lib.strCells_length] using hown') neB
  · exact (hb1.grown hgrow (by have := hb1.size; omega) (fun k hk => (hown.lt k hk).1)).setCell (p := ⟨b, 1, none⟩) hB _
end Go.Proofs.YtndojpcjhkncgaaGreatDoor.Q
end

section
namespace Go.Proofs.YtndojpcjhkncgaaGreatDoor.Q
open Go Go.RowKit
set_option linter.unusedVariables false
set_option linter.unusedSimpArgs false
def dig (n : Nat) : UInt8 := ([48, 49, 50, 51, 52, 53, 54, 55, 56, 57, 97, 98, 99, 100, 101, 102] : List UInt8).getD n 0
def hexL (n : Nat) : List UInt8 := if n < 16 then [dig n] else hexL (n / 16) ++ [dig (n % 16)]
termination_by n
def hexA (l : List UInt8) : Array Value := (List.replicate (65 - l.length) (Value.int .u8 0) ++ l.map fun b => Value.int .u8 b.toNat).toArray
theorem digs_at (n : Nat) (hn : n < 16) : ∀ h, ((⟨#[48, 49, 50, 51, 52, 53, 54, 55, 56, 57, 97, 98, 99, 100, 101, 102, 103, 104, 105, 106, 107, 108, 109, 110, 111, 112, 113, 114, 115, 116, 117, 118, 119, 120, 121, 122]⟩ : ByteArray)[n]'h) = dig n := by
  intro h
  match n, hn with
  | 0, _ => rfl
  | 1, _ => rfl
  | 2, _ => rfl
  | 3, _ => rfl
  | 4, _ => rfl
  | 5, _ => rfl
  | 6, _ => rfl
  | 7, _ => rfl
  | 8, _ => rfl
  | 9, _ => rfl
  | 10, _ => rfl
  | 11, _ => rfl
  | 12, _ => rfl
  | 13, _ => rfl
  | 14, _ => rfl
  | 15, _ => rfl
  | n + 16, h => omega
theorem hexA_set (l : List UInt8) (j : Nat) (d : UInt8) (hj : j + l.length = 65) (h1 : 1 ≤ j) : (hexA l).setIfInBounds (j - 1) (Value.int .u8 (d.toNat : Int)) = hexA (d :: l) := by
  obtain ⟨m, rfl⟩ : ∃ m, j = m + 1 := ⟨j - 1, by omega⟩
  unfold hexA
  rw [List.setIfInBounds_toArray, show 65 - l.length = m + 1 by omega, show 65 - (d :: l).length = m by simp; omega, Nat.add_sub_cancel, List.replicate_succ', List.append_assoc, List.set_append_right _ _ (by simp)]
  simp
theorem hexA_size (l : List UInt8) (h : l.length ≤ 65) : (hexA l).size = 65 := by simp [hexA]; omega
theorem hexA_cell (l : List UInt8) (i : Nat) (h : l.length ≤ 65) (hi : i < l.length) : (hexA l)[65 - l.length + i]? = some (.int .u8 ((l.map fun b => (b.toNat : Int)).getD i 0)) := by
  simp [hexA, List.getElem?_append, hi]
theorem and_15 (v : Nat) (h : v < 4294967296) : Go.bits .and .u64 (v : Int) 15 = ((v % 16 : Nat) : Int) := by
  have := bits_and_u64_nat v 15 (by omega) (by omega)
  rw [show ((15 : Nat) : Int) = 15 from rfl] at this
  rw [this, Nat.and_two_pow_sub_one_eq_mod v 4]
theorem hexL_small (v : Nat) (h : v < 16) : hexL v = [dig v] := by rw [hexL, if_pos h]
theorem hexL_big (v : Nat) (h : 16 ≤ v) : hexL v = hexL (v / 16) ++ [dig (v % 16)] := by rw [hexL, if_neg (by omega)]
theorem hexL_step (u v : Nat) (l : List UInt8) (h : hexL u = hexL v ++ l) (h16 : 16 ≤ v) : hexL u = hexL (v / 16) ++ (dig (v % 16) :: l) := by rw [h, hexL_big v h16]; simp
theorem hexL_end (u v : Nat) (l : List UInt8) (h : hexL u = hexL v ++ l) (h16 : v < 16) : hexL u = dig v :: l := by rw [h, hexL_small v h16]; rfl
theorem hexL_length (k : Nat) : ∀ u, u < 16 ^ (k + 1) → 1 ≤ (hexL u).length ∧ (hexL u).length ≤ k + 1 := by
  induction k with
  | zero => intro u hu; rw [hexL_small u (by simpa using hu)]; simp
  | succ k ih =>
    intro u hu
    by_cases h : u < 16
    · rw [hexL_small u h]; simp
    · rw [hexL_big u (by omega)]
      have := ih (u / 16) (by rw [Nat.div_lt_iff_lt_mul (by omega), ← Nat.pow_succ]; exact hu)
      simp; omega
end Go.Proofs.YtndojpcjhkncgaaGreatDoor.Q
end

section
namespace Go.Proofs
open Go.Shelf
def Tryz.lays169_ren : Go.Shelf.Ren := ⟨fun | 169 => 63 | n => n, fun | 70 => 98 | 9 => 9 | 0 => 0 | 72 => 100 | 37 => 53 | 127 => 118 | 3 => 3 | 5 => 5 | n => n, fun | n => n⟩
theorem Tryz.lays169 : Go.Proofs.Lays.n169 Tryz.prog Tryz.lays169_ren := {
  mixed := by kernel_rfl
  f169 := Tryz.func63.trans (congrArg some (by kernel_rfl))
  t0 := Tryz.underlying0
  a0 := Tryz.isAgg0
  z0 := Tryz.sizeOf0
  v0 := Tryz.zeroValue0
  t3 := Tryz.underlying3
  a3 := Tryz.isAgg3
  z3 := Tryz.sizeOf3
  v3 := Tryz.zeroValue3
  t9 := Tryz.underlying9
  a9 := Tryz.isAgg9
  z9 := Tryz.sizeOf9
  v9 := Tryz.zeroValue9
  t37 := Tryz.underlying53
  a37 := Tryz.isAgg53
  z37 := Tryz.sizeOf53
  v37 := Tryz.zeroValue53
  t70 := Tryz.underlying98
  a70 := Tryz.isAgg98
  z70 := Tryz.sizeOf98
  v70 := Tryz.zeroValue98
  t72 := Tryz.underlying100
  a72 := Tryz.isAgg100
  z72 := Tryz.sizeOf100
  v72 := Tryz.zeroValue100
  t127 := Tryz.underlying118
  a127 := Tryz.isAgg118
  z127 := Tryz.sizeOf118
  v127 := Tryz.zeroValue118 }
theorem Tryz.Builder_Extra_169 : Builder.Extra Tryz.prog Tryz.lays169_ren := {
  sizeBuilder := by kernel_rfl
  liesBuilder := by kernel_rfl
  t5 := Tryz.underlying5
  a5 := Tryz.isAgg5
  z5 := Tryz.sizeOf5
  v5 := Tryz.zeroValue5
  infoByte := by kernel_rfl
  cellsByte := by kernel_rfl
  sizeByte := by kernel_rfl
  neB5 := by decide }
def Tryz.lays160_ren : Go.Shelf.Ren := ⟨fun | 160 => 75 | 232 => 86 | 231 => 85 | 227 => 87 | 234 => 89 | 233 => 88 | 236 => 91 | 235 => 90 | 228 => 109 | 271 => 112 | 151 => 111 | 197 => 110 | 120 => 134 | 152 => 133 | 260 => 132 | 137 => 93 | 119 => 145 | 224 => 137 | 225 => 136 | 217 => 113 | 266 => 135 | n => n, fun | 9 => 9 | 4 => 4 | 3 => 3 | 5 => 5 | 117 => 132 | 116 => 131 | 0 => 0 | 124 => 135 | 21 => 21 | 105 => 151 | 46 => 114 | 119 => 178 | 139 => 181 | 138 => 180 | n => n, fun | 3 => 4 | 4 => 5 | n => n⟩
theorem Tryz.lays160 : Go.Proofs.Lays.n160 Tryz.prog Tryz.lays160_ren := {
  mixed := by kernel_rfl
  f119 := Tryz.func145.trans (congrArg some (by kernel_rfl))
  f120 := Tryz.func134.trans (congrArg some (by kernel_rfl))
  f137 := Tryz.func93.trans (congrArg some (by kernel_rfl))
  f151 := Tryz.func111.trans (congrArg some (by kernel_rfl))
  f152 := Tryz.func133.trans (congrArg some (by kernel_rfl))
  f160 := Tryz.func75.trans (congrArg some (by kernel_rfl))
  f197 := Tryz.func110.trans (congrArg some (by kernel_rfl))
  f217 := Tryz.func113.trans (congrArg some (by kernel_rfl))
  f224 := Tryz.func137.trans (congrArg some (by kernel_rfl))
  f225 := Tryz.func136.trans (congrArg some (by kernel_rfl))
  f227 := Tryz.func87.trans (congrArg some (by kernel_rfl))
  f228 := Tryz.func109.trans (congrArg some (by kernel_rfl))
  f231 := Tryz.func85.trans (congrArg some (by kernel_rfl))
  f232 := Tryz.func86.trans (congrArg some (by kernel_rfl))
  f233 := Tryz.func88.trans (congrArg some (by kernel_rfl))
  f234 := Tryz.func89.trans (congrArg some (by kernel_rfl))
  f235 := Tryz.func90.trans (congrArg some (by kernel_rfl))
  f236 := Tryz.func91.trans (congrArg some (by kernel_rfl))
  f260 := Tryz.func132.trans (congrArg some (by kernel_rfl))
  f266 := Tryz.func135.trans (congrArg some (by kernel_rfl))
  f271 := Tryz.func112.trans (congrArg some (by kernel_rfl))
  t0 := Tryz.underlying0
  a0 := Tryz.isAgg0
  z0 := Tryz.sizeOf0
  v0 := Tryz.zeroValue0
  t3 := Tryz.underlying3
  a3 := Tryz.isAgg3
  z3 := Tryz.sizeOf3
  v3 := Tryz.zeroValue3
  t4 := Tryz.underlying4
  a4 := Tryz.isAgg4
  z4 := Tryz.sizeOf4
  v4 := Tryz.zeroValue4
  t5 := Tryz.underlying5
  a5 := Tryz.isAgg5
  z5 := Tryz.sizeOf5
  v5 := Tryz.zeroValue5
  t9 := Tryz.underlying9
  a9 := Tryz.isAgg9
  z9 := Tryz.sizeOf9
  v9 := Tryz.zeroValue9
  t21 := Tryz.underlying21
  a21 := Tryz.isAgg21
  z21 := Tryz.sizeOf21
  v21 := Tryz.zeroValue21
  t46 := Tryz.underlying114
  a46 := Tryz.isAgg114
  z46 := Tryz.sizeOf114
  v46 := Tryz.zeroValue114
  t105 := Tryz.underlying151
  a105 := Tryz.isAgg151
  z105 := Tryz.sizeOf151
  v105 := Tryz.zeroValue151
  t116 := Tryz.underlying131
  a116 := Tryz.isAgg131
  z116 := Tryz.sizeOf131
  t117 := Tryz.underlying132
  a117 := Tryz.isAgg132
  z117 := Tryz.sizeOf132
  v117 := Tryz.zeroValue132
  t119 := Tryz.underlying178
  a119 := Tryz.isAgg178
  z119 := Tryz.sizeOf178
  t124 := Tryz.underlying135
  a124 := Tryz.isAgg135
  z124 := Tryz.sizeOf135
  v124 := Tryz.zeroValue135
  t138 := Tryz.underlying180
  a138 := Tryz.isAgg180
  z138 := Tryz.sizeOf180
  v138 := Tryz.zeroValue180
  t139 := Tryz.underlying181
  a139 := Tryz.isAgg181
  z139 := Tryz.sizeOf181
  v139 := Tryz.zeroValue181
  g3 := by kernel_rfl
  g4 := by kernel_rfl }
def Tryz.lays137_ren : Go.Shelf.Ren := ⟨fun | 137 => 93 | 217 => 113 | 266 => 135 | n => n, fun | 9 => 9 | 5 => 5 | 3 => 3 | n => n, fun | n => n⟩
theorem Tryz.lays137 : Go.Proofs.Lays.n137 Tryz.prog Tryz.lays137_ren := {
  mixed := by kernel_rfl
  f137 := Tryz.func93.trans (congrArg some (by kernel_rfl))
  f217 := Tryz.func113.trans (congrArg some (by kernel_rfl))
  f266 := Tryz.func135.trans (congrArg some (by kernel_rfl))
  t3 := Tryz.underlying3
  a3 := Tryz.isAgg3
  z3 := Tryz.sizeOf3
  v3 := Tryz.zeroValue3
  t5 := Tryz.underlying5
  a5 := Tryz.isAgg5
  z5 := Tryz.sizeOf5
  v5 := Tryz.zeroValue5
  t9 := Tryz.underlying9
  a9 := Tryz.isAgg9
  z9 := Tryz.sizeOf9
  v9 := Tryz.zeroValue9 }
open Go.RowKit in
theorem Tryz.strings_IndexByte (s : ByteArray) (c : Int) (w : World) :
    Calls Tryz.prog 93 #[.string s, .int .u8 c] w fun e w' => e = .returned (.int .i64 (Lib.indexByte s.data.toList c.toNat.toUInt8)) ∧ w' = w := Any.strings_IndexByte Tryz.lays137 s c w
open Go.RowKit in
theorem Tryz.Builder_String_any_k (B b : Nat) (l : List UInt8) (w : World) (h : Lib.IsBuilderF 100 5 B b (Lib.byteCells l) w) (hBw : B ≤ w.heap.size) :
    Calls Tryz.prog 63 #[.pointer (some ⟨b, 0, none⟩)] w fun e w' => e = .returned (.string ⟨l.toArray⟩) ∧ (Lib.IsBuilderF 100 5 B b (Lib.byteCells l) w' ∧ Below B w w' ∧ Lib.OthersKept 5 (some b) w w') := Any.Builder_String_any_k Tryz.lays169 Tryz.Builder_Extra_169 B b l w h hBw
def Tryz.laysM171_ren : Go.Shelf.Ren := ⟨fun | 171 => 62 | 243 => 73 | 246 => 82 | 283 => 100 | 284 => 101 | 285 => 102 | 286 => 103 | 129 => 124 | 317 => 123 | 318 => 125 | 319 => 126 | 320 => 127 | 337 => 142 | 338 => 143 | n => n, fun | 3 => 3 | 9 => 9 | 2 => 2 | 4 => 4 | 171 => 140 | 0 => 0 | 53 => 127 | 37 => 53 | 5 => 5 | 173 => 143 | 212 => 163 | 51 => 119 | 20 => 20 | 213 => 164 | 46 => 114 | 232 => 188 | 233 => 189 | n => n, fun | 17 => 0 | 18 => 6 | 19 => 7 | n => n⟩
theorem Tryz.laysM171 : Go.Proofs.LaysM.n171 Tryz.prog Tryz.laysM171_ren := {
  mixed := by kernel_rfl
  f129 := Tryz.func124.trans (congrArg some (by kernel_rfl))
  f171 := Tryz.func62.trans (congrArg some (by kernel_rfl))
  f243 := Tryz.func73.trans (congrArg some (by kernel_rfl))
  f246 := Tryz.func82.trans (congrArg some (by kernel_rfl))
  f283 := Tryz.func100.trans (congrArg some (by kernel_rfl))
  f284 := Tryz.func101.trans (congrArg some (by kernel_rfl))
  f285 := Tryz.func102.trans (congrArg some (by kernel_rfl))
  f286 := Tryz.func103.trans (congrArg some (by kernel_rfl))
  f317 := Tryz.func123.trans (congrArg some (by kernel_rfl))
  f318 := Tryz.func125.trans (congrArg some (by kernel_rfl))
  f319 := Tryz.func126.trans (congrArg some (by kernel_rfl))
  f320 := Tryz.func127.trans (congrArg some (by kernel_rfl))
  f337 := Tryz.func142.trans (congrArg some (by kernel_rfl))
  f338 := Tryz.func143.trans (congrArg some (by kernel_rfl))
  t0 := Tryz.underlying0
  a0 := Tryz.isAgg0
  z0 := Tryz.sizeOf0
  v0 := Tryz.zeroValue0
  t2 := Tryz.underlying2
  a2 := Tryz.isAgg2
  z2 := Tryz.sizeOf2
  v2 := Tryz.zeroValue2
  t3 := Tryz.underlying3
  a3 := Tryz.isAgg3
  z3 := Tryz.sizeOf3
  v3 := Tryz.zeroValue3
  t4 := Tryz.underlying4
  a4 := Tryz.isAgg4
  z4 := Tryz.sizeOf4
  v4 := Tryz.zeroValue4
  t5 := Tryz.underlying5
  a5 := Tryz.isAgg5
  z5 := Tryz.sizeOf5
  v5 := Tryz.zeroValue5
  t9 := Tryz.underlying9
  a9 := Tryz.isAgg9
  z9 := Tryz.sizeOf9
  v9 := Tryz.zeroValue9
  t20 := Tryz.underlying20
  a20 := Tryz.isAgg20
  z20 := Tryz.sizeOf20
  v20 := Tryz.zeroValue20
  t37 := Tryz.underlying53
  a37 := Tryz.isAgg53
  z37 := Tryz.sizeOf53
  v37 := Tryz.zeroValue53
  t46 := Tryz.underlying114
  a46 := Tryz.isAgg114
  z46 := Tryz.sizeOf114
  v46 := Tryz.zeroValue114
  t51 := Tryz.underlying119
  a51 := Tryz.isAgg119
  z51 := Tryz.sizeOf119
  v51 := Tryz.zeroValue119
  t53 := Tryz.underlying127
  a53 := Tryz.isAgg127
  z53 := Tryz.sizeOf127
  v53 := Tryz.zeroValue127
  t171 := Tryz.underlying140
  a171 := Tryz.isAgg140
  z171 := Tryz.sizeOf140
  v171 := Tryz.zeroValue140
  t173 := Tryz.underlying143
  a173 := Tryz.isAgg143
  z173 := Tryz.sizeOf143
  v173 := Tryz.zeroValue143
  t212 := Tryz.underlying163
  a212 := Tryz.isAgg163
  z212 := Tryz.sizeOf163
  v212 := Tryz.zeroValue163
  t213 := Tryz.underlying164
  a213 := Tryz.isAgg164
  z213 := Tryz.sizeOf164
  t232 := Tryz.underlying188
  a232 := Tryz.isAgg188
  z232 := Tryz.sizeOf188
  v232 := Tryz.zeroValue188
  t233 := Tryz.underlying189
  a233 := Tryz.isAgg189
  z233 := Tryz.sizeOf189
  v233 := Tryz.zeroValue189
  g17 := by kernel_rfl
  g18 := by kernel_rfl
  g19 := by kernel_rfl
  i0 := by kernel_rfl
  i2 := by kernel_rfl
  i3 := by kernel_rfl
  i4 := by kernel_rfl
  i5 := by kernel_rfl
  i9 := by kernel_rfl
  i20 := by kernel_rfl
  i37 := by kernel_rfl
  i46 := by kernel_rfl
  i51 := by kernel_rfl
  i53 := by kernel_rfl
  i171 := by kernel_rfl
  i173 := by kernel_rfl
  i212 := by kernel_rfl
  i232 := by kernel_rfl
  i233 := by kernel_rfl
  m17 := by kernel_rfl
  m18 := by kernel_rfl
  m19 := by kernel_rfl }
open Go.RowKit Go.Sort Go.Lib in
theorem Tryz.strconv_Itoa (n : Int) (h0 : -9223372036854775808 ≤ n) (h1 : n ≤ 9223372036854775807) (w : World) (htab : Lib.TabIs Tryz.prog w "internal/strconv.uint64pow10" .u64 Lib.pow10Tab) :
    Calls Tryz.prog 62 #[.int .i64 n] w fun e w' => e = .returned (.string ⟨(Lib.itoa n).toArray⟩) ∧ ∃ k os, w' = grow (w.drewN k) os := Any.strconv_Itoa Tryz.laysM171 n h0 h1 w htab
def Tryz.laysC172_ren : Go.Shelf.Ren := ⟨fun | 172 => 80 | 244 => 98 | 245 => 99 | 247 => 118 | 279 => 119 | 280 => 120 | 281 => 121 | 282 => 122 | 287 => 139 | 316 => 140 | 171 => 62 | 205 => 141 | 321 => 147 | 322 => 148 | 243 => 73 | 246 => 82 | 283 => 100 | 284 => 101 | 285 => 102 | 286 => 103 | 129 => 124 | 317 => 123 | 318 => 125 | 319 => 126 | 320 => 127 | 337 => 142 | 338 => 143 | n => n, fun | 9 => 9 | 3 => 3 | 75 => 102 | 76 => 103 | 4 => 4 | 5 => 5 | 167 => 155 | 37 => 53 | 0 => 0 | 85 => 156 | 2 => 2 | 168 => 158 | 53 => 127 | 175 => 171 | 46 => 114 | 210 => 174 | 127 => 118 | 145 => 187 | 143 => 185 | 21 => 21 | 171 => 140 | 173 => 143 | 212 => 163 | 51 => 119 | 20 => 20 | 213 => 164 | 232 => 188 | 233 => 189 | 80 => 106 | n => n, fun | 15 => 2 | 16 => 3 | 17 => 0 | 18 => 6 | 19 => 7 | n => n⟩
theorem Tryz.laysC172 : Go.Proofs.LaysC.n172 Tryz.prog Tryz.laysC172_ren := {
  mixed := by kernel_rfl
  f129 := Tryz.func124.trans (congrArg some (by kernel_rfl))
  f171 := Tryz.func62.trans (congrArg some (by kernel_rfl))
  f172 := Tryz.func80.trans (congrArg some (by kernel_rfl))
  f205 := Tryz.func141.trans (congrArg some (by kernel_rfl))
  f243 := Tryz.func73.trans (congrArg some (by kernel_rfl))
  f244 := Tryz.func98.trans (congrArg some (by kernel_rfl))
  f245 := Tryz.func99.trans (congrArg some (by kernel_rfl))
  f246 := Tryz.func82.trans (congrArg some (by kernel_rfl))
  f247 := Tryz.func118.trans (congrArg some (by kernel_rfl))
  f279 := Tryz.func119.trans (congrArg some (by kernel_rfl))
  f280 := Tryz.func120.trans (congrArg some (by kernel_rfl))
  f281 := Tryz.func121.trans (congrArg some (by kernel_rfl))
  f282 := Tryz.func122.trans (congrArg some (by kernel_rfl))
  f283 := Tryz.func100.trans (congrArg some (by kernel_rfl))
  f284 := Tryz.func101.trans (congrArg some (by kernel_rfl))
  f285 := Tryz.func102.trans (congrArg some (by kernel_rfl))
  f286 := Tryz.func103.trans (congrArg some (by kernel_rfl))
  f287 := Tryz.func139.trans (congrArg some (by kernel_rfl))
  f316 := Tryz.func140.trans (congrArg some (by kernel_rfl))
  f317 := Tryz.func123.trans (congrArg some (by kernel_rfl))
  f318 := Tryz.func125.trans (congrArg some (by kernel_rfl))
  f319 := Tryz.func126.trans (congrArg some (by kernel_rfl))
  f320 := Tryz.func127.trans (congrArg some (by kernel_rfl))
  f321 := Tryz.func147.trans (congrArg some (by kernel_rfl))
  f322 := Tryz.func148.trans (congrArg some (by kernel_rfl))
  f337 := Tryz.func142.trans (congrArg some (by kernel_rfl))
  f338 := Tryz.func143.trans (congrArg some (by kernel_rfl))
  t0 := Tryz.underlying0
  a0 := Tryz.isAgg0
  z0 := Tryz.sizeOf0
  v0 := Tryz.zeroValue0
  t2 := Tryz.underlying2
  a2 := Tryz.isAgg2
  z2 := Tryz.sizeOf2
  v2 := Tryz.zeroValue2
  t3 := Tryz.underlying3
  a3 := Tryz.isAgg3
  z3 := Tryz.sizeOf3
  v3 := Tryz.zeroValue3
  t4 := Tryz.underlying4
  a4 := Tryz.isAgg4
  z4 := Tryz.sizeOf4
  v4 := Tryz.zeroValue4
  t5 := Tryz.underlying5
  a5 := Tryz.isAgg5
  z5 := Tryz.sizeOf5
  v5 := Tryz.zeroValue5
  t9 := Tryz.underlying9
  a9 := Tryz.isAgg9
  z9 := Tryz.sizeOf9
  v9 := Tryz.zeroValue9
  t20 := Tryz.underlying20
  a20 := Tryz.isAgg20
  z20 := Tryz.sizeOf20
  v20 := Tryz.zeroValue20
  t21 := Tryz.underlying21
  a21 := Tryz.isAgg21
  z21 := Tryz.sizeOf21
  v21 := Tryz.zeroValue21
  t37 := Tryz.underlying53
  a37 := Tryz.isAgg53
  z37 := Tryz.sizeOf53
  v37 := Tryz.zeroValue53
  t46 := Tryz.underlying114
  a46 := Tryz.isAgg114
  z46 := Tryz.sizeOf114
  v46 := Tryz.zeroValue114
  t51 := Tryz.underlying119
  a51 := Tryz.isAgg119
  z51 := Tryz.sizeOf119
  v51 := Tryz.zeroValue119
  t53 := Tryz.underlying127
  a53 := Tryz.isAgg127
  z53 := Tryz.sizeOf127
  v53 := Tryz.zeroValue127
  t75 := Tryz.underlying102
  a75 := Tryz.isAgg102
  z75 := Tryz.sizeOf102
  v75 := Tryz.zeroValue102
  t76 := Tryz.underlying103
  a76 := Tryz.isAgg103
  z76 := Tryz.sizeOf103
  v76 := Tryz.zeroValue103
  t85 := Tryz.underlying156
  a85 := Tryz.isAgg156
  z85 := Tryz.sizeOf156
  v85 := Tryz.zeroValue156
  t127 := Tryz.underlying118
  a127 := Tryz.isAgg118
  z127 := Tryz.sizeOf118
  v127 := Tryz.zeroValue118
  t143 := Tryz.underlying185
  a143 := Tryz.isAgg185
  z143 := Tryz.sizeOf185
  v143 := Tryz.zeroValue185
  t145 := Tryz.underlying187
  a145 := Tryz.isAgg187
  z145 := Tryz.sizeOf187
  v145 := Tryz.zeroValue187
  t167 := Tryz.underlying155
  a167 := Tryz.isAgg155
  z167 := Tryz.sizeOf155
  v167 := Tryz.zeroValue155
  t168 := Tryz.underlying158
  a168 := Tryz.isAgg158
  z168 := Tryz.sizeOf158
  v168 := Tryz.zeroValue158
  t171 := Tryz.underlying140
  a171 := Tryz.isAgg140
  z171 := Tryz.sizeOf140
  v171 := Tryz.zeroValue140
  t173 := Tryz.underlying143
  a173 := Tryz.isAgg143
  z173 := Tryz.sizeOf143
  v173 := Tryz.zeroValue143
  t175 := Tryz.underlying171
  a175 := Tryz.isAgg171
  z175 := Tryz.sizeOf171
  v175 := Tryz.zeroValue171
  t210 := Tryz.underlying174
  a210 := Tryz.isAgg174
  z210 := Tryz.sizeOf174
  v210 := Tryz.zeroValue174
  t212 := Tryz.underlying163
  a212 := Tryz.isAgg163
  z212 := Tryz.sizeOf163
  v212 := Tryz.zeroValue163
  t213 := Tryz.underlying164
  a213 := Tryz.isAgg164
  z213 := Tryz.sizeOf164
  t232 := Tryz.underlying188
  a232 := Tryz.isAgg188
  z232 := Tryz.sizeOf188
  v232 := Tryz.zeroValue188
  t233 := Tryz.underlying189
  a233 := Tryz.isAgg189
  z233 := Tryz.sizeOf189
  v233 := Tryz.zeroValue189
  g15 := by kernel_rfl
  g16 := by kernel_rfl
  g17 := by kernel_rfl
  g18 := by kernel_rfl
  g19 := by kernel_rfl
  t80 := Tryz.underlying106
  a80 := Tryz.isAgg106
  z80 := Tryz.sizeOf106
  v80 := Tryz.zeroValue106
  i0 := by kernel_rfl
  i2 := by kernel_rfl
  i3 := by kernel_rfl
  i4 := by kernel_rfl
  i5 := by kernel_rfl
  i9 := by kernel_rfl
  i20 := by kernel_rfl
  i21 := by kernel_rfl
  i37 := by kernel_rfl
  i46 := by kernel_rfl
  i51 := by kernel_rfl
  i53 := by kernel_rfl
  i75 := by kernel_rfl
  i76 := by kernel_rfl
  i80 := by kernel_rfl
  i85 := by kernel_rfl
  i127 := by kernel_rfl
  i143 := by kernel_rfl
  i145 := by kernel_rfl
  i167 := by kernel_rfl
  i168 := by kernel_rfl
  i171 := by kernel_rfl
  i173 := by kernel_rfl
  i175 := by kernel_rfl
  i210 := by kernel_rfl
  i212 := by kernel_rfl
  i232 := by kernel_rfl
  i233 := by kernel_rfl
  m15 := by kernel_rfl
  m16 := by kernel_rfl
  m17 := by kernel_rfl
  m18 := by kernel_rfl
  m19 := by kernel_rfl
  c0 := by kernel_rfl
  c2 := by kernel_rfl
  c3 := by kernel_rfl
  c4 := by kernel_rfl
  c5 := by kernel_rfl
  c9 := by kernel_rfl
  c20 := by kernel_rfl
  c21 := by kernel_rfl
  c37 := by kernel_rfl
  c46 := by kernel_rfl
  c51 := by kernel_rfl
  c53 := by kernel_rfl
  c75 := by kernel_rfl
  c76 := by kernel_rfl
  c80 := by kernel_rfl
  c85 := by kernel_rfl
  c127 := by kernel_rfl
  c143 := by kernel_rfl
  c145 := by kernel_rfl
  c167 := by kernel_rfl
  c168 := by kernel_rfl
  c171 := by kernel_rfl
  c173 := by kernel_rfl
  c175 := by kernel_rfl
  c210 := by kernel_rfl
  c212 := by kernel_rfl
  c213 := by kernel_rfl
  c232 := by kernel_rfl
  c233 := by kernel_rfl }
open Go.RowKit in
theorem Tryz.strconv_Atoi_ok (s : ByteArray) (hmax : s.size ≤ 9223372036854775806) (v : Int) (h : Lib.atoiAll s.data.toList = .ok v) (w : World) :
    Calls Tryz.prog 80 #[.string s] w fun e w' => e = .returned (.tuple #[.int .i64 v, .nilIface]) ∧ (w' = w ∨ ∃ t, w' = Lib.bytesWorld w 5 t) := Any.strconv_Atoi_ok Tryz.laysC172 s hmax v h w
open Go.RowKit in
theorem Tryz.strconv_Atoi_range (s : ByteArray) (hlim : s.size ≤ 281474976710656) (h : Lib.atoiAll s.data.toList = .range) (ev : Value) (w : World) (hv : w.cell? ⟨3, 0, none⟩ = some ev) (hev : ev = .nilIface ∨ ∃ te pe, ev = .iface te pe) :
    Calls Tryz.prog 80 #[.string s] w fun e w' => ∃ N, e = .returned (.tuple #[.int .i64 (Lib.atoiSat s.data.toList), .iface 158 (.pointer (some ⟨N, 0, none⟩))]) ∧ w.heap.size ≤ N ∧ w'.heap[N]? = some (.cells #[.string ⟨#[65, 116, 111, 105]⟩, .string s, ev] 174 (0, 0)) ∧ Below w.heap.size w w' := Any.strconv_Atoi_range Tryz.laysC172 s hlim h ev w hv hev
def Tryz.lays102_ren : Go.Shelf.Ren := ⟨fun | 102 => 78 | 209 => 94 | 207 => 114 | n => n, fun | 9 => 9 | 4 => 4 | 3 => 3 | n => n, fun | n => n⟩
theorem Tryz.lays102 : Go.Proofs.Lays.n102 Tryz.prog Tryz.lays102_ren := {
  mixed := by kernel_rfl
  f102 := Tryz.func78.trans (congrArg some (by kernel_rfl))
  f207 := Tryz.func114.trans (congrArg some (by kernel_rfl))
  f209 := Tryz.func94.trans (congrArg some (by kernel_rfl))
  t3 := Tryz.underlying3
  a3 := Tryz.isAgg3
  z3 := Tryz.sizeOf3
  v3 := Tryz.zeroValue3
  t4 := Tryz.underlying4
  a4 := Tryz.isAgg4
  z4 := Tryz.sizeOf4
  v4 := Tryz.zeroValue4
  t9 := Tryz.underlying9
  a9 := Tryz.isAgg9
  z9 := Tryz.sizeOf9
  v9 := Tryz.zeroValue9 }
open Go.RowKit Go.Lib in
theorem Tryz.strings_TrimSuffix (s p : ByteArray) (w : World) (hs : s.size ≤ 9223372036854775807) :
    Calls Tryz.prog 78 #[.string s, .string p] w fun e w' => e = .returned (.string ⟨(Lib.trimSuffix s.data.toList p.data.toList).toArray⟩) ∧ w' = w := Any.strings_TrimSuffix Tryz.lays102 s p w hs
def Tryz.lays146_ren : Go.Shelf.Ren := ⟨fun | 146 => 67 | 221 => 79 | 268 => 95 | 138 => 96 | 143 => 97 | 195 => 115 | 197 => 110 | 218 => 116 | 219 => 117 | 260 => 132 | 217 => 113 | 225 => 136 | 224 => 137 | 267 => 138 | 266 => 135 | 314 => 146 | n => n, fun | 9 => 9 | 31 => 111 | 3 => 3 | 4 => 4 | 0 => 0 | 105 => 151 | 21 => 21 | 5 => 5 | 46 => 114 | 119 => 178 | 139 => 181 | 138 => 180 | 146 => 166 | 51 => 119 | n => n, fun | 1 => 1 | 3 => 4 | 4 => 5 | n => n⟩
theorem Tryz.lays146 : Go.Proofs.Lays.n146 Tryz.prog Tryz.lays146_ren := {
  mixed := by kernel_rfl
  f138 := Tryz.func96.trans (congrArg some (by kernel_rfl))
  f143 := Tryz.func97.trans (congrArg some (by kernel_rfl))
  f146 := Tryz.func67.trans (congrArg some (by kernel_rfl))
  f195 := Tryz.func115.trans (congrArg some (by kernel_rfl))
  f197 := Tryz.func110.trans (congrArg some (by kernel_rfl))
  f217 := Tryz.func113.trans (congrArg some (by kernel_rfl))
  f218 := Tryz.func116.trans (congrArg some (by kernel_rfl))
  f219 := Tryz.func117.trans (congrArg some (by kernel_rfl))
  f221 := Tryz.func79.trans (congrArg some (by kernel_rfl))
  f224 := Tryz.func137.trans (congrArg some (by kernel_rfl))
  f225 := Tryz.func136.trans (congrArg some (by kernel_rfl))
  f260 := Tryz.func132.trans (congrArg some (by kernel_rfl))
  f266 := Tryz.func135.trans (congrArg some (by kernel_rfl))
  f267 := Tryz.func138.trans (congrArg some (by kernel_rfl))
  f268 := Tryz.func95.trans (congrArg some (by kernel_rfl))
  f314 := Tryz.func146.trans (congrArg some (by kernel_rfl))
  t0 := Tryz.underlying0
  a0 := Tryz.isAgg0
  z0 := Tryz.sizeOf0
  v0 := Tryz.zeroValue0
  t3 := Tryz.underlying3
  a3 := Tryz.isAgg3
  z3 := Tryz.sizeOf3
  v3 := Tryz.zeroValue3
  t4 := Tryz.underlying4
  a4 := Tryz.isAgg4
  z4 := Tryz.sizeOf4
  v4 := Tryz.zeroValue4
  t5 := Tryz.underlying5
  a5 := Tryz.isAgg5
  z5 := Tryz.sizeOf5
  v5 := Tryz.zeroValue5
  t9 := Tryz.underlying9
  a9 := Tryz.isAgg9
  z9 := Tryz.sizeOf9
  v9 := Tryz.zeroValue9
  t21 := Tryz.underlying21
  a21 := Tryz.isAgg21
  z21 := Tryz.sizeOf21
  v21 := Tryz.zeroValue21
  t31 := Tryz.underlying111
  a31 := Tryz.isAgg111
  z31 := Tryz.sizeOf111
  v31 := Tryz.zeroValue111
  t46 := Tryz.underlying114
  a46 := Tryz.isAgg114
  z46 := Tryz.sizeOf114
  v46 := Tryz.zeroValue114
  t51 := Tryz.underlying119
  a51 := Tryz.isAgg119
  z51 := Tryz.sizeOf119
  v51 := Tryz.zeroValue119
  t105 := Tryz.underlying151
  a105 := Tryz.isAgg151
  z105 := Tryz.sizeOf151
  v105 := Tryz.zeroValue151
  t119 := Tryz.underlying178
  a119 := Tryz.isAgg178
  z119 := Tryz.sizeOf178
  t138 := Tryz.underlying180
  a138 := Tryz.isAgg180
  z138 := Tryz.sizeOf180
  v138 := Tryz.zeroValue180
  t139 := Tryz.underlying181
  a139 := Tryz.isAgg181
  z139 := Tryz.sizeOf181
  v139 := Tryz.zeroValue181
  t146 := Tryz.underlying166
  a146 := Tryz.isAgg166
  z146 := Tryz.sizeOf166
  v146 := Tryz.zeroValue166
  g1 := by kernel_rfl
  g3 := by kernel_rfl
  g4 := by kernel_rfl }
open Go.RowKit Go.Lib in
theorem Tryz.strings_Split (s sep : ByteArray) (m : Int) (w : World) (hs : s.size < 4294967281) (hm : w.cell? ⟨1, 0, none⟩ = some (.int .i64 m)) (h1 : 1 ≤ sep.size) :
    Calls Tryz.prog 67 #[.string s, .string sep] w fun e w' =>
      e = .returned (.slice (some ⟨w.heap.size, 0, none⟩) (Lib.countB s sep + 1) (Lib.countB s sep + 1)) ∧ w' = w.alloc (.cells ((Lib.splitB sep 0 (Lib.countB s sep) s).map Value.string).toArray 9) := Any.strings_Split Tryz.lays146 (by kernel_rfl) s sep m w hs hm h1
def Tryz.lays105_ren : Go.Shelf.Ren := ⟨fun | 105 => 84 | 212 => 105 | 99 => 106 | 165 => 107 | 166 => 60 | 170 => 108 | 169 => 63 | 263 => 128 | 264 => 129 | 206 => 130 | 240 => 72 | 241 => 131 | 276 => 81 | 277 => 144 | n => n, fun | 9 => 9 | 3 => 3 | 4 => 4 | 20 => 20 | 0 => 0 | 46 => 114 | 109 => 145 | 5 => 5 | 72 => 100 | 76 => 103 | 51 => 119 | 146 => 166 | 53 => 127 | 148 => 168 | 70 => 98 | 37 => 53 | 75 => 102 | 127 => 118 | 164 => 123 | 80 => 106 | n => n, fun | n => n⟩
theorem Tryz.lays105 : Go.Proofs.Lays.n105 Tryz.prog Tryz.lays105_ren := {
  mixed := by kernel_rfl
  f99 := Tryz.func106.trans (congrArg some (by kernel_rfl))
  f105 := Tryz.func84.trans (congrArg some (by kernel_rfl))
  f165 := Tryz.func107.trans (congrArg some (by kernel_rfl))
  f166 := Tryz.func60.trans (congrArg some (by kernel_rfl))
  f169 := Tryz.func63.trans (congrArg some (by kernel_rfl))
  f170 := Tryz.func108.trans (congrArg some (by kernel_rfl))
  f206 := Tryz.func130.trans (congrArg some (by kernel_rfl))
  f212 := Tryz.func105.trans (congrArg some (by kernel_rfl))
  f240 := Tryz.func72.trans (congrArg some (by kernel_rfl))
  f241 := Tryz.func131.trans (congrArg some (by kernel_rfl))
  f263 := Tryz.func128.trans (congrArg some (by kernel_rfl))
  f264 := Tryz.func129.trans (congrArg some (by kernel_rfl))
  f276 := Tryz.func81.trans (congrArg some (by kernel_rfl))
  f277 := Tryz.func144.trans (congrArg some (by kernel_rfl))
  t0 := Tryz.underlying0
  a0 := Tryz.isAgg0
  z0 := Tryz.sizeOf0
  v0 := Tryz.zeroValue0
  t3 := Tryz.underlying3
  a3 := Tryz.isAgg3
  z3 := Tryz.sizeOf3
  v3 := Tryz.zeroValue3
  t4 := Tryz.underlying4
  a4 := Tryz.isAgg4
  z4 := Tryz.sizeOf4
  v4 := Tryz.zeroValue4
  t5 := Tryz.underlying5
  a5 := Tryz.isAgg5
  z5 := Tryz.sizeOf5
  v5 := Tryz.zeroValue5
  t9 := Tryz.underlying9
  a9 := Tryz.isAgg9
  z9 := Tryz.sizeOf9
  v9 := Tryz.zeroValue9
  t20 := Tryz.underlying20
  a20 := Tryz.isAgg20
  z20 := Tryz.sizeOf20
  v20 := Tryz.zeroValue20
  t37 := Tryz.underlying53
  a37 := Tryz.isAgg53
  z37 := Tryz.sizeOf53
  v37 := Tryz.zeroValue53
  t46 := Tryz.underlying114
  a46 := Tryz.isAgg114
  z46 := Tryz.sizeOf114
  v46 := Tryz.zeroValue114
  t51 := Tryz.underlying119
  a51 := Tryz.isAgg119
  z51 := Tryz.sizeOf119
  v51 := Tryz.zeroValue119
  t53 := Tryz.underlying127
  a53 := Tryz.isAgg127
  z53 := Tryz.sizeOf127
  v53 := Tryz.zeroValue127
  t70 := Tryz.underlying98
  a70 := Tryz.isAgg98
  z70 := Tryz.sizeOf98
  v70 := Tryz.zeroValue98
  t72 := Tryz.underlying100
  a72 := Tryz.isAgg100
  z72 := Tryz.sizeOf100
  v72 := Tryz.zeroValue100
  t75 := Tryz.underlying102
  a75 := Tryz.isAgg102
  z75 := Tryz.sizeOf102
  v75 := Tryz.zeroValue102
  t76 := Tryz.underlying103
  a76 := Tryz.isAgg103
  z76 := Tryz.sizeOf103
  v76 := Tryz.zeroValue103
  t109 := Tryz.underlying145
  a109 := Tryz.isAgg145
  z109 := Tryz.sizeOf145
  v109 := Tryz.zeroValue145
  t127 := Tryz.underlying118
  a127 := Tryz.isAgg118
  z127 := Tryz.sizeOf118
  v127 := Tryz.zeroValue118
  t146 := Tryz.underlying166
  a146 := Tryz.isAgg166
  z146 := Tryz.sizeOf166
  v146 := Tryz.zeroValue166
  t148 := Tryz.underlying168
  a148 := Tryz.isAgg168
  z148 := Tryz.sizeOf168
  v148 := Tryz.zeroValue168
  t164 := Tryz.underlying123
  a164 := Tryz.isAgg123
  z164 := Tryz.sizeOf123
  v164 := Tryz.zeroValue123 }
theorem Tryz.Builder_Extra_105 : Builder.Extra Tryz.prog Tryz.lays105_ren := {
  sizeBuilder := by kernel_rfl
  liesBuilder := by kernel_rfl
  t5 := Tryz.underlying5
  a5 := Tryz.isAgg5
  z5 := Tryz.sizeOf5
  v5 := Tryz.zeroValue5
  infoByte := by kernel_rfl
  cellsByte := by kernel_rfl
  sizeByte := by kernel_rfl
  neB5 := by decide }
open Go.RowKit Go.Lib in
theorem Tryz.strings_Repeat (s : ByteArray) (c : Nat) (w : World) (hc : c ≤ 9223372036854775807) (hlen : s.size * c ≤ 140737488355328) :
    Calls Tryz.prog 84 #[.string s, .int .i64 c] w fun e w' => e = .returned (.string ⟨(Lib.repeatL s.data.toList c).toArray⟩) ∧ Below w.heap.size w w' := Any.strings_Repeat Tryz.lays105 Tryz.Builder_Extra_105 s c w hc hlen
end Go.Proofs
end

section
namespace Go.Proofs.YtndojpcjhkncgaaGreatDoor.Q
open Go Go.RowKit Go.Proofs.YtndojpcjhkncgaaGreatDoorW.PrintWords
set_option linter.unusedVariables false
set_option linter.unusedSimpArgs false
theorem tz_16 (w : World) (hG : GG w) : Calls Tryz.prog 143 #[.int .u64 16] w fun e w' => e = .returned (.int .i64 4) ∧ w' = w := by
  have hc := hG.low.cell named_low 15 (by decide)
  clear hG
  replace hc : w.cell? ⟨7, 15, none⟩ = some (.int .u8 4) := hc
  have key : IntKind.u64.wrap (bits BinOp.and IntKind.u64 16 (IntKind.u64.wrap (-16)) * 285870213051353865) / 288230376151711744 = 15 := by kernel_rfl
  go_enter Tryz.func143, Tryz.ntmps143
  go_wp2
  go_ret
  exact ⟨rfl, rfl⟩
theorem tzs_16 (w : World) (hG : GG w) : Calls Tryz.prog 127 #[.int .u64 16] w fun e w' => e = .returned (.int .i64 4) ∧ w' = w := by
  have h := tz_16 w hG
  clear hG
  go_enter Tryz.func127, Tryz.ntmps127
  go_wp2_with (go_at_call 143; refine h.mono ?_; rintro e w' ⟨rfl, rfl⟩)
  go_ret
  exact ⟨rfl, rfl⟩
theorem pow_16 (w : World) : Calls Tryz.prog 126 #[.int .i64 16] w fun e w' => e = .returned (.bool true) ∧ w' = w := by
  have key : (bits BinOp.and IntKind.i64 16 15 == 0) = true := by kernel_rfl
  go_enter Tryz.func126, Tryz.ntmps126
  go_wp2
  go_ret
  exact ⟨rfl, rfl⟩
theorem hexA_nil : Tryz.zeroCells164 = hexA [] := by kernel_rfl
theorem alen_110 : Tryz.prog.arrayLen 164 = 65 := by kernel_rfl
theorem elem_110 : Tryz.prog.elem 164 = 5 := by kernel_rfl
theorem under_110 : Tryz.prog.underlying 164 = some (.array (Tryz.prog.arrayLen 164) (Tryz.prog.elem 164)) := by kernel_rfl
theorem slice_110 (W : World) (b j : Nat) (h1 : 1 ≤ j) (h2 : j ≤ 65) : (Instr.sliceAt 164 (.pointer (some ⟨b, 0, none⟩)) (some (.int .i64 ((j : Int) - 1))) none none).run Tryz.prog W = .ok (.slice (some ⟨b, j - 1, none⟩) (66 - j) (66 - j)) W := by
  have hs : (sizeOf 5).run Tryz.prog W = .ok 1 W := by kernel_rfl
  have h := run_sliceAt_array_l (P := Tryz.prog) W 164 ⟨b, 0, none⟩ under_110 .i64 ((j : Int) - 1) (by omega) (by rw [alen_110]; omega)
  rw [h, elem_110, hs, alen_110]
  have e1 : ((j : Int) - 1).toNat = j - 1 := by omega
  have e2 : ¬ 65 = j - 1 := by omega
  simp only [Result.andThen, slicedAt, e1, if_neg e2, Nat.mul_one]
  rw [show 65 - (j - 1) = 66 - j by omega]
  unfold Addr.add
  by_cases e : j - 1 = 0
  · simp [e]
  · simp [e]
theorem conv_hex (w : World) (l : List UInt8) (h : l.length ≤ 65) : (convert 53 9 (.slice (some ⟨w.heap.size, 65 - l.length, none⟩) l.length l.length)).run Tryz.prog (w.alloc (.cells (hexA l) 164)) = .ok (.string ⟨l.toArray⟩) (w.alloc (.cells (hexA l) 164)) := by
  have hc := run_convert_bytes_arg (P := Tryz.prog) (w.alloc (.cells (hexA l) 164)) 53 5 Tryz.underlying53 Tryz.underlying5 w.heap.size (65 - l.length) l.length l.length (l.map fun b => (b.toNat : Int)) (by simp) (fun i hi => by
    exact (blk_cell (heap_alloc_new w (.cells (hexA l) 164)) (65 - l.length + i)).trans (hexA_cell l i h hi)) 9 Tryz.underlying9
  rw [hc, Lib.Lz.strOfNums_map]
set_option maxRecDepth 100000 in
theorem bits_16 (u : Nat) (hu : u < 4294967296) (w : World) (hG : GG w) :
    Calls Tryz.prog 103 #[.slice none 0 0, .int .u64 u, .int .i64 16, .bool false, .bool false] w fun e w' => e = .returned (.tuple #[.slice none 0 0, .string ⟨(hexL u).toArray⟩]) ∧ Below w.heap.size w w' := by
  have hz : GG (w.alloc (.cells Tryz.zeroCells164 164)) := hG.below ((Below.refl _ _).alloc (Nat.le_refl _) _)
  clear hG
  have hlen := hexL_length 7 u (by omega)
  go_enter Tryz.func103, Tryz.ntmps103
  go_wp2_with (first | (go_at_call 126; refine (pow_16 _).mono ?_; rintro e w' ⟨rfl, rfl⟩) | (go_at_call 127; refine (tzs_16 _ hz).mono ?_; rintro e w' ⟨rfl, rfl⟩))
  go_loopw [1, 13] (fun x y wr => ∃ (v j : Nat) (l : List UInt8), x = .int .u64 v ∧ y = .int .i64 j ∧ j + l.length = 65 ∧ v < 4294967296 ∧ Hid (hexL u = hexL v ++ l) ∧ wr = w.alloc (.cells (hexA l) 164)) (fun x _ _ => (intOf x).toNat)
  case atStart => exact ⟨u, 65, [], rfl, rfl, rfl, hu, by exact (by simp : hexL u = hexL u ++ []), by rw [hexA_nil]⟩
  case round =>
    obtain ⟨v, j, l, rfl, rfl, hj, hv, hl, rfl⟩ := hrel
    have hll : l.length ≤ 7 := by
      have h1 := congrArg List.length hl.out
      have h2 := hexL_length 7 v (by omega)
      rw [List.length_append] at h1
      omega
    have hlt : j - 1 < (hexA l).size := by rw [hexA_size l (by omega)]; omega
    have hb := heap_alloc_new w (.cells (hexA l) 164)
    have hc : (w.alloc (.cells (hexA l) 164)).cell? ⟨w.heap.size, j - 1, none⟩ = some (hexA l)[j - 1] := (blk_cell hb (j - 1)).trans (Array.getElem?_eq_getElem hlt)
    obtain ⟨x, hx⟩ : ∃ x, (hexA l)[j - 1] = x := ⟨_, rfl⟩
    rw [hx] at hc
    clear hx hlt
    have hf := blk_frozen hb (j - 1)
    clear hb
    have ha := and_15 v hv
    have hj1 : (j : Int) ≤ 65 := by omega
    have hj0 : (1 : Int) ≤ (j : Int) := by omega
    clear hlen
    by_cases h16 : 16 ≤ v
    · have hd := digs_at (v % 16) (by omega)
      have hset := hexA_set l j (dig (v % 16)) hj (by omega)
      have HJ := Lib.hid hj
      have HL := Lib.hid hll
      clear hj hll
      go_wp2
      have hj := HJ.out
      refine ⟨⟨v / 16, j - 1, dig (v % 16) :: l, by simp, ?_, by simp; omega, by omega, hexL_step u v l hl.out h16, rfl⟩, by simp [intOf]; omega⟩
      rw [show ((j - 1 : Nat) : Int) = (j : Int) - 1 by omega]
    · have hd := digs_at v (by omega)
      have hset := hexA_set l j (dig v) hj (by omega)
      have hsl := fun W => slice_110 W w.heap.size j (by omega) (by omega)
      have hcv := conv_hex w (dig v :: l) (by simp; omega)
      rw [show 65 - (dig v :: l).length = j - 1 by simp; omega, show (dig v :: l).length = 66 - j by simp; omega] at hcv
      have he := hexL_end u v l hl.out (by omega)
      have HE := Lib.hid he
      have HJ := Lib.hid hj
      have HL := Lib.hid hll
      clear hj hll he hl
      go_wp2
      go_ret2
      exact ⟨congrArg (fun z => Ending.returned (.tuple #[.slice none 0 0, .string ⟨List.toArray z⟩])) HE.out.symm, (Below.refl _ _).alloc (Nat.le_refl _) _⟩
theorem uint_16 (u : Nat) (hu : u < 4294967296) (w : World) (hG : GG w) :
    Calls Tryz.prog 104 #[.int .u64 u, .int .i64 16] w fun e w' => e = .returned (.string ⟨(hexL u).toArray⟩) ∧ Below w.heap.size w w' := by
  have H := Lib.hid (bits_16 u hu w hG)
  clear hG
  go_enter Tryz.func104, Tryz.ntmps104
  go_wp2_with (go_at_call 103; refine H.out.mono ?_; rintro e w' ⟨rfl, hb⟩)
  go_ret
  exact ⟨rfl, hb⟩
theorem FormatUint_16 (u : Nat) (hu : u < 4294967296) (w : World) (hG : GG w) :
    Calls Tryz.prog 83 #[.int .u64 u, .int .i64 16] w fun e w' => e = .returned (.string ⟨(hexL u).toArray⟩) ∧ Below w.heap.size w w' := by
  have H := Lib.hid (uint_16 u hu w hG)
  clear hG
  go_enter Tryz.func83, Tryz.ntmps83
  go_wp2_with (go_at_call 104; refine H.out.mono ?_; rintro e w' ⟨rfl, hb⟩)
  go_ret
  exact ⟨rfl, hb⟩
def hex8 (u : Nat) : List UInt8 := List.replicate (8 - (hexL u).length) 48 ++ hexL u
def bank_hex.f (a0 : Int) : Option ByteArray := if 0 ≤ a0 ∧ a0 < 4294967296 then some ⟨(hex8 a0.toNat).toArray⟩ else none
theorem rep_48 (n : Nat) : Lib.repeatL [48] n = List.replicate n (48 : UInt8) := by
  induction n with
  | zero => rfl
  | succ n ih => rw [Lib.repeatL, ih]; rfl
theorem hex8_eq (u : Nat) (s r : ByteArray) (hs : s = ⟨(hexL u).toArray⟩) (hr : r = ⟨(Lib.repeatL [48] (8 - s.size)).toArray⟩) : r ++ s = ⟨(hex8 u).toArray⟩ := by
  have hz : s.size = (hexL u).length := by rw [hs]; rfl
  rw [hr, hz, hs, rep_48]
  apply ByteArray.ext
  rw [ByteArray.data_append]
  simp [hex8]
theorem bank_hex.go (u : Nat) (hu : u < 4294967296) (w : World) (hG : GG w) :
    Calls Tryz.prog 74 #[.int .u32 u] w fun e w' => e = .returned (.string ⟨(hex8 u).toArray⟩) ∧ Below w.heap.size w w' := by
  obtain ⟨s, hs⟩ : ∃ s : ByteArray, s = ⟨(hexL u).toArray⟩ := ⟨_, rfl⟩
  obtain ⟨r, hr⟩ : ∃ r : ByteArray, r = ⟨(Lib.repeatL [48] (8 - s.size)).toArray⟩ := ⟨_, rfl⟩
  have hl := hexL_length 7 u (by omega)
  have hz : s.size = (hexL u).length := by rw [hs]; rfl
  have hsz : s.size ≤ 8 := by omega
  have hrz : r.size ≤ 8 := by
    rw [hr, rep_48]
    show (List.replicate (8 - s.size) (48 : UInt8)).toArray.size ≤ 8
    simp
  have h := FormatUint_16 u hu w hG
  rw [← hs] at h
  have h2 : ∀ W, Calls Tryz.prog 84 #[.string ⟨#[48]⟩, .int .i64 ((8 - s.size : Nat) : Int)] W fun e w' => e = .returned (.string r) ∧ Below W.heap.size W w' := by
    intro W
    rw [hr]
    exact Tryz.strings_Repeat ⟨#[48]⟩ (8 - s.size) W (by omega) (by show 1 * (8 - s.size) ≤ _; omega)
  have H := Lib.hid h
  have H2 := Lib.hid h2
  have HE := Lib.hid (hex8_eq u s r hs hr)
  clear h h2 hs hr hG hz hl
  go_enter Tryz.func74, Tryz.ntmps74
  go_wp2_with (go_at_call 83; refine H.out.mono ?_; rintro e w' ⟨rfl, hb⟩)
  rw [show (8 : Int) - (s.size : Int) = ((8 - s.size : Nat) : Int) by omega]
  refine (H2.out _).mono ?_
  rintro e w2 ⟨rfl, hb2⟩
  go_wp2_with fail
  go_ret
  exact ⟨by rw [← HE.out]; rfl, below_step hb hb2⟩
theorem bank_hex.calls (a0 : Int) (r : ByteArray) (w : World) (hG : GG w) (h : bank_hex.f a0 = some r) :
    Calls Tryz.prog 74 #[.int .u32 a0] w fun e w' => e = .returned (.string r) ∧ Below w.heap.size w w' := by
  unfold bank_hex.f at h
  split at h
  · rename_i h0
    obtain rfl := Option.some.inj h
    have := bank_hex.go a0.toNat (by omega) w hG
    rw [Int.toNat_of_nonneg h0.1] at this
    exact this
  · cases h
def strconv_Itoa.f (a0 : Int) : Option ByteArray := if -9223372036854775808 ≤ a0 ∧ a0 ≤ 9223372036854775807 then some ⟨(Lib.itoa a0).toArray⟩ else none
theorem strconv_Itoa.calls (a0 : Int) (r : ByteArray) (w : World) (hG : GG w) (h : strconv_Itoa.f a0 = some r) :
    Calls Tryz.prog 62 #[.int .i64 a0] w fun e w' => e = .returned (.string r) ∧ Below w.heap.size w w' := by
  unfold strconv_Itoa.f at h
  split at h
  · rename_i h0
    obtain rfl := Option.some.inj h
    refine (Tryz.strconv_Itoa a0 h0.1 h0.2 w hG.pow).mono ?_
    rintro e w' ⟨rfl, k, os, rfl⟩
    exact ⟨rfl, Lib.below_grow _ _ (Nat.le_refl _) _ _⟩
  · cases h
end Go.Proofs.YtndojpcjhkncgaaGreatDoor.Q
end

section
namespace Go.Proofs.YtndojpcjhkncgaaGreatDoor.Q
open Go Go.RowKit Go.Proofs.YtndojpcjhkncgaaGreatDoorW.PrintWords
set_option linter.unusedVariables false
set_option linter.unusedSimpArgs false
structure Bd (w0 : World) (b : Nat) (l : List UInt8) (W : World) : Prop where
  is : Lib.IsBuilderF 100 5 w0.heap.size b (Lib.byteCells l) W
  low : Below w0.heap.size w0 W
structure Ok (b : Nat) (W W' : World) : Prop where
  kept : Lib.OthersKept 5 (some b) W W'
theorem Ok.refl (b : Nat) (W : World) : Ok b W W := ⟨Lib.OthersKept.refl _ _ _⟩
theorem Ok.trans {b : Nat} {W1 W2 W3 : World} (h : Ok b W1 W2) (k : Ok b W2 W3) : Ok b W1 W3 := ⟨h.kept.trans k.kept⟩
theorem Ok.of_below {b : Nat} {W1 W2 : World} (h : Below W1.heap.size W1 W2) : Ok b W1 W2 := ⟨fun k o hk _ _ => (h.block k (Array.getElem?_eq_some_iff.1 hk).1).trans hk⟩
theorem Ok.then_ {b : Nat} {W1 W2 W3 : World} (h : Ok b W1 W2) (k : Below W2.heap.size W2 W3) : Ok b W1 W3 := h.trans (Ok.of_below k)
theorem Ok.at_ {b g : Nat} {W W' : World} (h : Ok b W W') {cs : Array Value} {t : TypeId} {fz : Nat × Nat} (hg : W.heap[g]? = some (.cells cs t fz)) (hb : g ≠ b) (ht : t ≠ 5) : W'.heap[g]? = some (.cells cs t fz) :=
  h.kept g _ hg (fun e => hb (Option.some.inj e)) (fun c z e => ht (by injection e))
theorem Bd.then_ {w0 : World} {b : Nat} {l : List UInt8} {W W' : World} (h : Bd w0 b l W) (k : Below W.heap.size W W') : Bd w0 b l W' := by
  have one : ∀ p, Lib.BuilderAtF 100 5 w0.heap.size b p (Lib.byteCells l) W → Lib.BuilderAtF 100 5 w0.heap.size b p (Lib.byteCells l) W' := by
    rintro p ⟨hB, v, hb, ho, hne⟩
    exact ⟨hB, v, (k.block b (Array.getElem?_eq_some_iff.1 hb).1).trans hb, ho.kept (grown_of_below k none) (by cases v.ownBlock <;> simp), hne⟩
  exact ⟨h.is.imp (one _) (one _), below_then h.low h.low.size k⟩
theorem Bd.lt {w0 : World} {b : Nat} {l : List UInt8} {W : World} (h : Bd w0 b l W) : b < W.heap.size := by
  rcases h.is with h | h
  · exact h.lt
  · exact h.lt
theorem WriteByte_b (w0 : World) (b : Nat) (l : List UInt8) (c : UInt8) (W : World) (h : Bd w0 b l W) (hlen : l.length + 1 ≤ 140737488355328) :
    Calls Tryz.prog 61 #[.pointer (some ⟨b, 0, none⟩), .int .u8 c.toNat] W fun e W' => e = .returned .nilIface ∧ Bd w0 b (l ++ [c]) W' ∧ Ok b W W' := by
  refine (WriteByte_k w0.heap.size b (Lib.byteCells l) c.toNat W h.is (by rw [Lib.byteCells_length]; exact hlen) h.low.size).mono ?_
  rintro e W' ⟨rfl, h1, h2, h3⟩
  rw [show Lib.byteCells l ++ [Value.int .u8 (c.toNat : Int)] = Lib.byteCells (l ++ [c]) by rw [Lib.byteCells_append]; rfl] at h1
  exact ⟨rfl, ⟨.inr h1, h.low.trans h2⟩, ⟨h3⟩⟩
theorem WriteString_b (w0 : World) (b : Nat) (l : List UInt8) (s : ByteArray) (W : World) (h : Bd w0 b l W) (hlen : l.length + s.size ≤ 140737488355328) :
    Calls Tryz.prog 60 #[.pointer (some ⟨b, 0, none⟩), .string s] W fun e W' => e = .returned (.tuple #[.int .i64 s.size, .nilIface]) ∧ Bd w0 b (l ++ s.data.toList) W' ∧ Ok b W W' := by
  refine (WriteString_k w0.heap.size b (Lib.byteCells l) s W h.is (by rw [Lib.byteCells_length]; exact hlen) h.low.size).mono ?_
  rintro e W' ⟨rfl, h1, h2, h3⟩
  rw [Lib.strCells_eq, ← Lib.byteCells_append] at h1
  exact ⟨rfl, ⟨.inr h1, h.low.trans h2⟩, ⟨h3⟩⟩
def numsL (ns : List Int) : List UInt8 := ns.flatMap fun n => 32 :: Lib.itoa n
def lineL (word : List UInt8) (ns : List Int) : List UInt8 := word ++ numsL ns ++ [10]
theorem numsL_snoc (ns : List Int) (k : Nat) (hk : k < ns.length) : numsL (ns.take (k + 1)) = numsL (ns.take k) ++ [32] ++ Lib.itoa ns[k] := by
  unfold numsL
  rw [List.take_succ_eq_append_getElem hk, List.flatMap_append]
  simp
theorem numsL_take_le (ns : List Int) (k : Nat) : (numsL (ns.take k)).length ≤ (numsL ns).length := by
  have h : numsL ns = numsL (ns.take k) ++ numsL (ns.drop k) := by
    unfold numsL
    rw [← List.flatMap_append, List.take_append_drop]
  rw [h, List.length_append]
  omega
set_option maxHeartbeats 1000000 in
set_option maxRecDepth 100000 in
theorem line_go (w0 : World) (hG : GG w0) (b : Nat) (l : List UInt8) (word : ByteArray) (ns : List Int) (g : Nat) (W : World) (hI : Bd w0 b l W)
    (hns : ∀ n ∈ ns, -9223372036854775808 ≤ n ∧ n ≤ 9223372036854775807) (hlen : l.length + (lineL word.data.toList ns).length ≤ 140737488355328)
    (hg : W.heap[g]? = some (.cells (ns.map (Value.int .i64)).toArray 3 (0, 0))) (hgb : g ≠ b) (hnl : ns.length ≤ 1000) :
    Calls Tryz.prog 59 #[.string word, .slice (some ⟨g, 0, none⟩) ns.length ns.length, .pointer (some ⟨b, 0, none⟩)] W fun e W' => e = .returned (.tuple #[]) ∧ Bd w0 b (l ++ lineL word.data.toList ns) W' ∧ Ok b W W' := by
  have HG := Lib.hid hG
  have HI := Lib.hid hI
  have HN := Lib.hid hns
  have hll : (lineL word.data.toList ns).length = word.size + (numsL ns).length + 1 := by
    unfold lineL
    rw [List.length_append, List.length_append, Array.length_toList]
    rfl
  have HL := Lib.hid (show l.length + word.size + (numsL ns).length + 1 ≤ 140737488355328 by omega)
  have Hg := Lib.hid hg
  clear hG hI hns hlen hg hll
  go_enter Tryz.func59, Tryz.ntmps59
  go_wp2_with (go_at_call 60; refine (WriteString_b w0 b l word W HI.out (by have := HL.out; omega)).mono ?_; rintro e W1 ⟨rfl, hI1, hk1⟩)
  have HI1 := Lib.hid hI1
  have HK1 := Lib.hid hk1
  clear hI1 hk1
  go_loopw [11] (fun i wr => ∃ k : Nat, k ≤ ns.length ∧ i = .int .i64 k ∧ Hid (Bd w0 b (l ++ word.data.toList ++ numsL (ns.take k)) wr) ∧ Hid (Ok b W wr)) (fun i _ => ns.length - (intOf i).toNat)
  case atStart => exact ⟨0, Nat.zero_le _, rfl, by rw [List.take_zero]; exact Lib.hid (by simpa [numsL] using HI1.out), HK1⟩
  case round =>
    obtain ⟨k, hk, rfl, hI, hK⟩ := hrel
    have hb := hK.out.at_ Hg.out hgb (by decide)
    by_cases hlt : k < ns.length
    · have hc : wr.cell? ⟨g, k, none⟩ = some (.int .i64 ns[k]) := (blk_cell hb k).trans (by simp [hlt])
      obtain ⟨n, hn⟩ : ∃ n, n = ns[k] := ⟨_, rfl⟩
      rw [← hn] at hc
      have hr := HN.out n (by rw [hn]; exact List.getElem_mem hlt)
      have hle := numsL_take_le ns (k + 1)
      rw [numsL_snoc ns k hlt, ← hn, List.length_append, List.length_append] at hle
      have HS := Lib.hid (show l ++ word.data.toList ++ numsL (ns.take (k + 1)) = l ++ word.data.toList ++ numsL (ns.take k) ++ [32] ++ Lib.itoa n by rw [numsL_snoc ns k hlt, hn]; simp [List.append_assoc])
      have HE := Lib.hid hle
      have hit : strconv_Itoa.f n = some ⟨(Lib.itoa n).toArray⟩ := if_pos hr
      have HIt := Lib.hid hit
      have HR := Lib.hid hr
      have hwl : word.data.toList.length = word.size := by rw [Array.length_toList]; rfl
      have HW := Lib.hid hwl
      clear hn hle hit hr hwl hb
      go_wp2_with (go_at_call 61; refine (WriteByte_b w0 b _ 32 wr hI.out (by have h1 := HL.out; have h2 := HE.out; have h3 := HW.out; simp only [List.length_append, List.length_singleton] at h2 ⊢; omega)).mono ?_; rintro e W2 ⟨rfl, hI2, hk2⟩)
      have HI2 := Lib.hid hI2
      have HK2 := Lib.hid hk2
      clear hI2 hk2
      refine (strconv_Itoa.calls n _ W2 (HG.out.below HI2.out.low) HIt.out).mono ?_
      rintro e W3 ⟨rfl, hb3⟩
      have HI3 := Lib.hid (HI2.out.then_ hb3)
      have HK3 := Lib.hid (HK2.out.then_ hb3)
      clear hb3 HI2 HK2
      go_wp2_with fail
      refine (WriteString_b w0 b _ ⟨(Lib.itoa n).toArray⟩ W3 HI3.out (by have h1 := HL.out; have h2 := HE.out; have h3 := HW.out; simp only [List.length_append, List.length_singleton] at h2 ⊢; show _ + (Lib.itoa n).toArray.size ≤ _; simp only [List.size_toArray]; omega)).mono ?_
      rintro e W4 ⟨rfl, hI4, hk4⟩
      have HI4 := Lib.hid hI4
      have HK4 := Lib.hid (hK.out.trans (HK3.out.trans hk4))
      clear hI4 hk4 HI3 HK3 hc HIt HR
      go_wp2_with fail
      go_roundw
      case rel => exact ⟨k + 1, by omega, by go_num, by rw [HS.out]; exact HI4, HK4⟩
      case measure => simp [intOf]; omega
    · obtain rfl : k = ns.length := by omega
      have hI' := hI.out
      rw [List.take_length] at hI'
      have HI2 := Lib.hid hI'
      clear hI hI' hb
      have hwl : word.data.toList.length = word.size := by rw [Array.length_toList]; rfl
      have HW := Lib.hid hwl
      clear hwl
      go_wp2_with (go_at_call 61; refine (WriteByte_b w0 b _ 10 wr HI2.out (by have h1 := HL.out; have h3 := HW.out; simp only [List.length_append]; omega)).mono ?_; rintro e W2 ⟨rfl, hI2, hk2⟩)
      go_end0
      exact ⟨rfl, by simpa [lineL, List.append_assoc] using hI2, hK.out.trans hk2⟩
end Go.Proofs.YtndojpcjhkncgaaGreatDoor.Q
end
