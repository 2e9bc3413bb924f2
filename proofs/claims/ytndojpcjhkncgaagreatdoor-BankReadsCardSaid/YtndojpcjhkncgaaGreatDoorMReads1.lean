/- Part 1 of a proof: the texts Q0, SEv, QFbankcounts, QFbankdated, HSq, QFbankright, QFbankValid, QFbankRight, QFref36Valid, QFref36Right, QFbanktotal, QFbankTotal, QFref36sum, QFref36Total, SVal, GG, HBuild, HDig, put together by a program of this repo. -/
import Derived.Test.YtndojpcjhkncgaaGreatDoorProg
import Derived.Below
import Derived.Deep.Draws
import Derived.Deep.AppendLies
import Derived.Maps.AppendAt
import Derived.OwnWalk
import Derived.Laws.BytesArg
import Derived.Laws.MakeOwn
import Derived.Laws.OwnMore
import Derived.Deep.OwnRows
import Derived.Tactics
import Derived.Lib.ConvBytes
import Derived.Laws.Slices
import Derived.WalkKit
import Derived.KernelRfl
import Derived.RowKit3
import Derived.Deep.LoopGhost
import Derived.Deep.QuietTactic
import Derived.BigQuiet
import Derived.WideLaws
import Derived.Deep.DeepCutAuto
import Derived.Deep.CutBlock
import Derived.Deep.RegionHeld3
import Derived.Laws.Rows
import Derived.Lib.AppendStr
import Derived.ArgAppend
import Derived.Laws.IdiomCopy
import Derived.OrdersHeld
import Derived.Laws.BitsLemmas
import Derived.RowKit
import Derived.Test.YtndojpcjhkncgaaGreatDoorVMReads1
import Derived.Lib.SmallJoins
import Derived.Lib.ItoaNum
import Derived.Lib.TrailingZeros
import Derived.Lib.Hide
import Derived.Lib.OthersKept
import Derived.Lib.FrozenHead
import Derived.Lib.FrozenHead2
import Derived.Shelf.Strings.BuilderK
import Derived.Lib.LazyBuf

section
namespace Go.Proofs.YtndojpcjhkncgaaGreatDoor.Q
open Go.RowKit Go.Proofs.YtndojpcjhkncgaaGreatDoorW.PrintWords Go.Proofs.YtndojpcjhkncgaaGreatDoorW.PrintLast Go.Proofs.YtndojpcjhkncgaaGreatDoorW.PrintMore
attribute [local go_sem] max2_int min2_int max_two min_two max_three min_three max_four min_four   -- for this text's walks alone
set_option linter.unusedVariables false
set_option linter.unusedSimpArgs false
def errW : Option Int → Value
  | none => .nilIface
  | some c => .iface 155 (.int .i64 c)
theorem errW_none : errW none = .nilIface := rfl
theorem errW_some (c : Int) : errW (some c) = .iface 155 (.int .i64 c) := rfl
theorem info3 : (Tryz.prog.info? 3).map (fun i => (i.zero, i.size, i.bytes)) = some (some (.int .i64 0), 1, 8) := by kernel_rfl
theorem info9 : (Tryz.prog.info? 9).map (fun i => (i.zero, i.size, i.bytes)) = some (some (.string ⟨#[]⟩), 1, 16) := by kernel_rfl
theorem info44 : (Tryz.prog.info? 44).map (fun i => (i.zero, i.size, i.bytes)) = some (some (.slice none 0 0), 1, 24) := by kernel_rfl
theorem info47 : (Tryz.prog.info? 47).map (fun i => (i.zero, i.size, i.bytes)) = some (some (.agg #[(.int .i64 0), (.int .i64 0), (.int .i64 0), (.int .i64 0), (.int .i64 0)]), 5, 40) := by kernel_rfl
theorem info49 : (Tryz.prog.info? 49).map (fun i => (i.zero, i.size, i.bytes)) = some (some (.agg #[(.int .i64 0), (.int .i64 0)]), 2, 16) := by kernel_rfl
theorem info78 : (Tryz.prog.info? 78).map (fun i => (i.zero, i.size, i.bytes)) = some (some (.agg #[(.int .i64 0), (.int .i64 0)]), 2, 16) := by kernel_rfl
structure S47 where
  f0 : Int
  f1 : Int
  f2 : Int
  f3 : Int
  f4 : Int
def z47 : S47 := ⟨(0 : Int), (0 : Int), (0 : Int), (0 : Int), (0 : Int)⟩
def k47 : Kd S47 := Kd.iso (Kd.pair (Kd.int .i64) (Kd.pair (Kd.int .i64) (Kd.pair (Kd.int .i64) (Kd.pair (Kd.int .i64) (Kd.int .i64))))) (fun x : S47 => (x.f0, x.f1, x.f2, x.f3, x.f4))
theorem k47_open {w : World} {x : S47} {cs : List Value} (h : k47.K w x cs) : cs = [.int .i64 x.f0, .int .i64 x.f1, .int .i64 x.f2, .int .i64 x.f3, .int .i64 x.f4] := by
  obtain ⟨_, _, rfl, rfl, ⟨_, _, rfl, rfl, ⟨_, _, rfl, rfl, ⟨_, _, rfl, rfl, rfl⟩⟩⟩⟩ := h
  exact rfl
theorem k47_mkM (w : World) (base : Nat) (ok : Nat → Prop) (x : S47)  : k47.M w base ok x [.int .i64 x.f0, .int .i64 x.f1, .int .i64 x.f2, .int .i64 x.f3, .int .i64 x.f4] := ⟨[.int .i64 x.f0], [.int .i64 x.f1, .int .i64 x.f2, .int .i64 x.f3, .int .i64 x.f4], rfl, rfl, ⟨[.int .i64 x.f1], [.int .i64 x.f2, .int .i64 x.f3, .int .i64 x.f4], rfl, rfl, ⟨[.int .i64 x.f2], [.int .i64 x.f3, .int .i64 x.f4], rfl, rfl, ⟨[.int .i64 x.f3], [.int .i64 x.f4], rfl, rfl, rfl⟩⟩⟩⟩
def rd_T47 (xs : List S47) (i : Int) : S47 := xs.getD i.toNat z47
theorem at_T47 {w : World} {A : Option Addr} {n : Nat} {xs : List S47} (h : Kd.C k47 w A n xs) (i : Int) (h0 : 0 ≤ i) (h1 : i < n) : ∃ ad , A = some ad ∧ w.cell? (ad.add (i.toNat * 5)) = some (.int .i64 (rd_T47 xs i).f0) ∧ w.cell? ⟨(ad.add (i.toNat * 5)).block, (ad.add (i.toNat * 5)).off + 1, none⟩ = some (.int .i64 (rd_T47 xs i).f1) ∧ w.cell? ⟨(ad.add (i.toNat * 5)).block, (ad.add (i.toNat * 5)).off + 2, none⟩ = some (.int .i64 (rd_T47 xs i).f2) ∧ w.cell? ⟨(ad.add (i.toNat * 5)).block, (ad.add (i.toNat * 5)).off + 3, none⟩ = some (.int .i64 (rd_T47 xs i).f3) ∧ w.cell? ⟨(ad.add (i.toNat * 5)).block, (ad.add (i.toNat * 5)).off + 4, none⟩ = some (.int .i64 (rd_T47 xs i).f4) := by
  obtain ⟨ad, c, e, _, hK, hc0⟩ := Kd.C_get h z47 i h0 h1
  have hc : ∀ j u, c[j]? = some u → w.cell? (ad.add (i.toNat * 5 + j)) = some u := hc0
  obtain rfl := k47_open hK
  exact ⟨ad, e, hc 0 _ rfl, by rw [← add_field _ _ 1 (by omega)]; exact hc 1 _ rfl, by rw [← add_field _ _ 2 (by omega)]; exact hc 2 _ rfl, by rw [← add_field _ _ 3 (by omega)]; exact hc 3 _ rfl, by rw [← add_field _ _ 4 (by omega)]; exact hc 4 _ rfl⟩
structure S49 where
  f0 : Int
  f1 : Int
def z49 : S49 := ⟨(0 : Int), (0 : Int)⟩
def k49 : Kd S49 := Kd.iso (Kd.pair (Kd.int .i64) (Kd.int .i64)) (fun x : S49 => (x.f0, x.f1))
theorem k49_open {w : World} {x : S49} {cs : List Value} (h : k49.K w x cs) : cs = [.int .i64 x.f0, .int .i64 x.f1] := by
  obtain ⟨_, _, rfl, rfl, rfl⟩ := h
  exact rfl
theorem k49_mkM (w : World) (base : Nat) (ok : Nat → Prop) (x : S49)  : k49.M w base ok x [.int .i64 x.f0, .int .i64 x.f1] := ⟨[.int .i64 x.f0], [.int .i64 x.f1], rfl, rfl, rfl⟩
def rd_T49 (xs : List S49) (i : Int) : S49 := xs.getD i.toNat z49
theorem at_T49 {w : World} {A : Option Addr} {n : Nat} {xs : List S49} (h : Kd.C k49 w A n xs) (i : Int) (h0 : 0 ≤ i) (h1 : i < n) : ∃ ad , A = some ad ∧ w.cell? (ad.add (i.toNat * 2)) = some (.int .i64 (rd_T49 xs i).f0) ∧ w.cell? ⟨(ad.add (i.toNat * 2)).block, (ad.add (i.toNat * 2)).off + 1, none⟩ = some (.int .i64 (rd_T49 xs i).f1) := by
  obtain ⟨ad, c, e, _, hK, hc0⟩ := Kd.C_get h z49 i h0 h1
  have hc : ∀ j u, c[j]? = some u → w.cell? (ad.add (i.toNat * 2 + j)) = some u := hc0
  obtain rfl := k49_open hK
  exact ⟨ad, e, hc 0 _ rfl, by rw [← add_field _ _ 1 (by omega)]; exact hc 1 _ rfl⟩
structure S78 where
  f0 : Int
  f1 : Int
def z78 : S78 := ⟨(0 : Int), (0 : Int)⟩
def k78 : Kd S78 := Kd.iso (Kd.pair (Kd.int .i64) (Kd.int .i64)) (fun x : S78 => (x.f0, x.f1))
theorem k78_open {w : World} {x : S78} {cs : List Value} (h : k78.K w x cs) : cs = [.int .i64 x.f0, .int .i64 x.f1] := by
  obtain ⟨_, _, rfl, rfl, rfl⟩ := h
  exact rfl
theorem k78_mkM (w : World) (base : Nat) (ok : Nat → Prop) (x : S78)  : k78.M w base ok x [.int .i64 x.f0, .int .i64 x.f1] := ⟨[.int .i64 x.f0], [.int .i64 x.f1], rfl, rfl, rfl⟩
def rd_T78 (xs : List S78) (i : Int) : S78 := xs.getD i.toNat z78
theorem at_T78 {w : World} {A : Option Addr} {n : Nat} {xs : List S78} (h : Kd.C k78 w A n xs) (i : Int) (h0 : 0 ≤ i) (h1 : i < n) : ∃ ad , A = some ad ∧ w.cell? (ad.add (i.toNat * 2)) = some (.int .i64 (rd_T78 xs i).f0) ∧ w.cell? ⟨(ad.add (i.toNat * 2)).block, (ad.add (i.toNat * 2)).off + 1, none⟩ = some (.int .i64 (rd_T78 xs i).f1) := by
  obtain ⟨ad, c, e, _, hK, hc0⟩ := Kd.C_get h z78 i h0 h1
  have hc : ∀ j u, c[j]? = some u → w.cell? (ad.add (i.toNat * 2 + j)) = some u := hc0
  obtain rfl := k78_open hK
  exact ⟨ad, e, hc 0 _ rfl, by rw [← add_field _ _ 1 (by omega)]; exact hc 1 _ rfl⟩
def rd_L6 (xs : List (List Int)) (i : Int) : (List Int) := xs.getD i.toNat ([] : List Int)
theorem at_L6 {w : World} {A : Option Addr} {n : Nat} {xs : List (List Int)} (h : Kd.C (Kd.slice 3 (Kd.int .i64)) w A n xs) (i : Int) (h0 : 0 ≤ i) (h1 : i < n) : ∃ ad A0 c0, A = some ad ∧ w.cell? (ad.add i.toNat) = some (.slice A0 (rd_L6 xs i).length c0) ∧ (rd_L6 xs i).length ≤ c0 ∧ (Kd.int .i64).C w A0 (rd_L6 xs i).length (rd_L6 xs i) := by
  obtain ⟨ad, c, e, _, hK, hc0⟩ := Kd.C_get h ([] : List Int) i h0 h1
  have hc : ∀ j u, c[j]? = some u → w.cell? (ad.add (i.toNat * 1 + j)) = some u := hc0
  obtain ⟨A0, c0, rfl, l0, g0⟩ := hK
  exact ⟨ad, A0, c0, e, by have hq := hc 0 _ rfl; rwa [Nat.mul_one, Nat.add_zero] at hq, l0, g0⟩
end Go.Proofs.YtndojpcjhkncgaaGreatDoor.Q
end

section
namespace Go.Proofs.YtndojpcjhkncgaaGreatDoor.Q
open Go.RowKit Go.Proofs.YtndojpcjhkncgaaGreatDoorW.PrintWords
set_option linter.unusedVariables false
set_option linter.unusedSimpArgs false
theorem Ev.pos {α : Type} {c : Prop} [Decidable c] {f g : Nat → Option α} {r : α} (h : c) (k : Ev f r) : Ev (fun n => if c then f n else g n) r := Ev.congr (fun n => if_pos h) k
theorem Ev.neg {α : Type} {c : Prop} [Decidable c] {f g : Nat → Option α} {r : α} (h : ¬ c) (k : Ev g r) : Ev (fun n => if c then f n else g n) r := Ev.congr (fun n => if_neg h) k
theorem Ev.ret {α : Type} {a r : α} (h : a = r) : Ev (fun _ => some a) r := by subst h; exact Ev.now a
theorem Ev.eq {α : Type} {g : Nat → Option α} {r s : α} (h : Ev g r) (e : r = s) : Ev g s := e ▸ h
theorem Ev.const {α β : Type} {o : Option α} {f : Nat → α → Option β} {a : α} {r : β} (h : o = some a) (k : Ev (fun n => f n a) r) : Ev (fun n => o.bind (f n)) r := by subst h; exact k
theorem Ev.fix {α : Type} {o : Option α} {a : α} (h : o = some a) : Ev (fun _ => o) a := ⟨0, fun _ _ => h⟩
theorem w64 {n : Int} (h : -9223372036854775808 ≤ n) (h' : n ≤ 9223372036854775807) : wrap64 n = n := IntWalk.wrap64_in n ⟨h, h'⟩
theorem drop_get {α : Type} (L : List α) (i : Nat) (h : i < L.length) : L.drop i = L[i] :: L.drop (i + 1) := List.drop_eq_getElem_cons h
end Go.Proofs.YtndojpcjhkncgaaGreatDoor.Q
end

section
namespace Go.Proofs.YtndojpcjhkncgaaGreatDoor.Q
open Go.RowKit Go.Proofs.YtndojpcjhkncgaaGreatDoorW.PrintWords Go.Proofs.YtndojpcjhkncgaaGreatDoorW.PrintLast Go.Proofs.YtndojpcjhkncgaaGreatDoorW.PrintMore
attribute [local go_sem] max2_int min2_int max_two min_two max_three min_three max_four min_four   -- for this text's walks alone
set_option linter.unusedVariables false
set_option linter.unusedSimpArgs false
def bank_counts.f (a0 : Int) : Option (Bool) := if a0 ≥ 1 then (some (decide (a0 ≤ 1099511627776))) else (some false)
set_option maxHeartbeats 8000000 in
set_option maxRecDepth 100000 in
theorem bank_counts.calls (a0 : Int) (r : Bool) (w : World) (h : bank_counts.f a0 = some r) :
  Calls Tryz.prog 53 #[.int .i64 a0] w fun e w' => e = .returned (.bool r) ∧ Drawn0 w w' := by
 have H : (if a0 ≥ 1 then (some (decide (a0 ≤ 1099511627776))) else (some false)) = some r := h; clear h
 by_cases c2 : a0 ≥ 1
 ·
  rw [if_pos c2] at H
  have c2b0 : decide (1 ≤ a0) = true := decide_eq_true c2; clear c2; obtain rfl := Option.some.inj H
  go_enter Tryz.func53, Tryz.ntmps53
  go_wp2
  go_ret
  exact ⟨by first | rfl | (simp; done) | (simp [*]; done), by repeat (first | exact Drawn0.refl _ | apply Drawn0.step)⟩
 ·
  rw [if_neg c2] at H
  have c2b0 : decide (1 ≤ a0) = false := decide_eq_false c2; clear c2; obtain rfl := Option.some.inj H
  go_enter Tryz.func53, Tryz.ntmps53
  go_wp2
  go_ret
  exact ⟨by first | rfl | (simp; done) | (simp [*]; done), by repeat (first | exact Drawn0.refl _ | apply Drawn0.step)⟩
end Go.Proofs.YtndojpcjhkncgaaGreatDoor.Q
end

section
namespace Go.Proofs.YtndojpcjhkncgaaGreatDoor.Q
open Go.RowKit Go.Proofs.YtndojpcjhkncgaaGreatDoorW.PrintWords Go.Proofs.YtndojpcjhkncgaaGreatDoorW.PrintLast Go.Proofs.YtndojpcjhkncgaaGreatDoorW.PrintMore
attribute [local go_sem] max2_int min2_int max_two min_two max_three min_three max_four min_four   -- for this text's walks alone
set_option linter.unusedVariables false
set_option linter.unusedSimpArgs false
def bank_dated.f (a0 : Int) (a1 : Int) : Option (Bool) := (bank_counts.f a0).bind fun t110 => (if t110 = true then (if a1 ≥ 0 then (some (decide (a1 < 65536))) else (some false)) else (some false))
set_option maxHeartbeats 8000000 in
set_option maxRecDepth 100000 in
theorem bank_dated.calls (a0 : Int) (a1 : Int) (r : Bool) (w : World) (h : bank_dated.f a0 a1 = some r) :
  Calls Tryz.prog 42 #[.int .i64 a0, .int .i64 a1] w fun e w' => e = .returned (.bool r) ∧ Drawn0 w w' := by
 have H : ((bank_counts.f a0).bind fun t110 => (if t110 = true then (if a1 ≥ 0 then (some (decide (a1 < 65536))) else (some false)) else (some false))) = some r := h; clear h; replace H := Option.bind_eq_some_iff.mp H; obtain ⟨t110, A30, H⟩ := H; replace H : (if t110 = true then (if a1 ≥ 0 then (some (decide (a1 < 65536))) else (some false)) else (some false)) = some r := H; have A3 := Aside0.mk A30; clear A30
 by_cases c4 : t110 = true
 ·
  subst c4
  have H1 : (if a1 ≥ 0 then (some (decide (a1 < 65536))) else (some false)) = some r := by rw [if_pos rfl] at H; exact H
  clear H; have H := H1; clear H1
  by_cases c5 : a1 ≥ 0
  ·
   rw [if_pos c5] at H
   have c5b0 : decide (0 ≤ a1) = true := decide_eq_true c5; clear c5; obtain rfl := Option.some.inj H
   go_enter Tryz.func42, Tryz.ntmps42
   go_wp2_with (first | ((with_reducible refine gate_callee (f := 53) rfl ?_); refine goesL_ (some 6) rfl rfl Tryz.func53 (by kernel_rfl) rfl #[.int .i64 a0] rfl (by (try simp only [List.map_toArray, List.map_cons, List.map_nil]); try rfl) ?_; (with_reducible refine (bank_counts.calls a0 true _ A3.out).mono ?_); rintro e w' ⟨rfl, ⟨nd, rfl⟩⟩; refine ⟨_, rfl, ?_⟩))
   go_ret
   exact ⟨by first | rfl | (simp; done) | (simp [*]; done), by repeat (first | exact Drawn0.refl _ | apply Drawn0.step)⟩
  ·
   rw [if_neg c5] at H
   have c5b0 : decide (0 ≤ a1) = false := decide_eq_false c5; clear c5; obtain rfl := Option.some.inj H
   go_enter Tryz.func42, Tryz.ntmps42
   go_wp2_with (first | ((with_reducible refine gate_callee (f := 53) rfl ?_); refine goesL_ (some 6) rfl rfl Tryz.func53 (by kernel_rfl) rfl #[.int .i64 a0] rfl (by (try simp only [List.map_toArray, List.map_cons, List.map_nil]); try rfl) ?_; (with_reducible refine (bank_counts.calls a0 true _ A3.out).mono ?_); rintro e w' ⟨rfl, ⟨nd, rfl⟩⟩; refine ⟨_, rfl, ?_⟩))
   go_ret
   exact ⟨by first | rfl | (simp; done) | (simp [*]; done), by repeat (first | exact Drawn0.refl _ | apply Drawn0.step)⟩
 ·
  replace c4 := Bool.eq_false_iff.mpr c4; subst c4
  have H1 : (some false) = some r := by rw [if_neg (show ¬ (false = true) by decide)] at H; exact H
  clear H; have H := H1; clear H1; obtain rfl := Option.some.inj H
  go_enter Tryz.func42, Tryz.ntmps42
  go_wp2_with (first | ((with_reducible refine gate_callee (f := 53) rfl ?_); refine goesL_ (some 6) rfl rfl Tryz.func53 (by kernel_rfl) rfl #[.int .i64 a0] rfl (by (try simp only [List.map_toArray, List.map_cons, List.map_nil]); try rfl) ?_; (with_reducible refine (bank_counts.calls a0 false _ A3.out).mono ?_); rintro e w' ⟨rfl, ⟨nd, rfl⟩⟩; refine ⟨_, rfl, ?_⟩))
  go_ret
  exact ⟨by first | rfl | (simp; done) | (simp [*]; done), by repeat (first | exact Drawn0.refl _ | apply Drawn0.step)⟩
end Go.Proofs.YtndojpcjhkncgaaGreatDoor.Q
end

section
namespace Go.Proofs.YtndojpcjhkncgaaGreatDoor.Q
open Go Go.RowKit Go.Proofs.YtndojpcjhkncgaaGreatDoorW.PrintWords Go.Proofs.YtndojpcjhkncgaaGreatDoorW.PrintLast Go.Proofs.YtndojpcjhkncgaaGreatDoorW.PrintMore
set_option linter.unusedVariables false
theorem zB {w W : World} (h : Below w.heap.size w W := by repeat (first | (with_reducible first | exact Aside0.out (by assumption) | apply below_alloc | apply pw_below_drewN | apply below_drew1 | refine below_set ?_ (Aside0.out (by assumption))) | exact Aside0.out (by assumption))) : Below w.heap.size w W := h
theorem zBs {w W w2 : World} (hb : Below W.heap.size W w2) (h : Below w.heap.size w W := by repeat (first | (with_reducible first | exact Aside0.out (by assumption) | apply below_alloc | apply pw_below_drewN | apply below_drew1 | refine below_set ?_ (Aside0.out (by assumption))) | exact Aside0.out (by assumption))) : Aside0 (Below w.heap.size w w2) := ⟨below_step h hb⟩
theorem zG {w W : World} {g : Nat} (hg : g = W.heap.size) (h : Below w.heap.size w W := by repeat (first | (with_reducible first | exact Aside0.out (by assumption) | apply below_alloc | apply pw_below_drewN | apply below_drew1 | refine below_set ?_ (Aside0.out (by assumption))) | exact Aside0.out (by assumption))) : Aside0 (w.heap.size ≤ g) := ⟨by rw [hg]; exact below_size h⟩
theorem zK {w W : World} {g : Nat} {o : Obj} (b : Aside0 (w.heap[g]? = some o)) (h : Below w.heap.size w W := by with_reducible repeat (first | exact Below.refl _ _ | apply below_alloc | apply pw_below_drewN | apply below_drew1)) : W.heap[g]? = some o := blk_below b.out h
theorem zKb {w W w2 : World} {g : Nat} {o : Obj} (b : Aside0 (w.heap[g]? = some o)) (hb : Below W.heap.size W w2) (h : Below w.heap.size w W := by with_reducible repeat (first | exact Below.refl _ _ | apply below_alloc | apply pw_below_drewN | apply below_drew1)) : Aside0 (w2.heap[g]? = some o) := ⟨blk_below (blk_below b.out h) hb⟩
theorem zfar {w : World} {g k j : Nat} {t : TypeId} {cs : Array Value} (h : w.heap[g]? = some (.cells cs t (0, 0))) (hp : Aside0 (g ≠ k)) (u : Value) : (w.setCell ⟨k, j, none⟩ u).heap[g]? = some (.cells cs t (0, 0)) := blk_far h hp.out u
theorem zF {w W : World} {g : Nat} {o : Obj} (b : Aside0 (w.heap[g]? = some o)) (h : W.heap[g]? = some o := by (with_reducible repeat (first | apply blk_drewN | apply blk_drew | apply blk_alloc | refine zfar ?_ (by assumption) _)); exact Aside0.out (by assumption)) : W.heap[g]? = some o := h
theorem zN {W : World} {g k : Nat} {o : Obj} (hg : g = W.heap.size) (h : W.heap[k]? = some o) : Aside0 (k ≠ g) := ⟨by rw [hg]; exact Nat.ne_of_lt (blk_lt h)⟩
theorem zM {W : World} {g k : Nat} {o : Obj} (hg : g = W.heap.size) (h : W.heap[k]? = some o) : Aside0 (g ≠ k) := ⟨by rw [hg]; exact Nat.ne_of_gt (blk_lt h)⟩
theorem zL {w W : World} (HB : Aside0 (Below w.heap.size w W)) {a : Addr} {v : Value} (hc : w.cell? a = some v) : W.cell? a = some v := (HB.out.cell (World.block_lt_of_cell? w _ hc)).trans hc
theorem zD {p : Prop} [Decidable p] (h : decide p = true := by first | (with_reducible assumption) | assumption) : p := of_decide_eq_true h
theorem zE {α : Type _} {a b : α} (h : a = b := by first | rfl | (simp [errW_none, errW_some] <;> rfl) | (simp [*, errW_none, errW_some] <;> rfl)) : a = b := h
theorem zR {α : Type} {d : Kd α} {e w W base ok v xs} (b : Aside0 (Kd.R d e w base ok v xs)) (h : Below w.heap.size w W := by with_reducible repeat (first | exact Below.refl _ _ | apply below_alloc | apply pw_below_drewN | apply below_drew1)) : Kd.R d e W base ok v xs := Kd.R_below b.out h
theorem zS {α : Type} {d : Kd α} {e w W base ok v xs} (b : Aside0 (Kd.S d e w base ok v xs)) (h : Below w.heap.size w W := by with_reducible repeat (first | exact Below.refl _ _ | apply below_alloc | apply pw_below_drewN | apply below_drew1)) : Kd.S d e W base ok v xs := Kd.S_below b.out h
theorem zV {α : Type} {d : Kd α} {e w W base ok v xs} (b : Aside0 (Kd.V d e w base ok v xs)) (h : Below w.heap.size w W := by with_reducible repeat (first | exact Below.refl _ _ | apply below_alloc | apply pw_below_drewN | apply below_drew1)) : Kd.V d e W base ok v xs := Kd.V_below b.out h
theorem zC2 {w : World} {g : Nat} {t : TypeId} {a c : Value} (b : Aside0 (w.heap[g]? = some (.cells #[a, c] t (0, 0)))) : w.cell? ⟨g, 0, none⟩ = some a ∧ w.cell? ⟨g, 1, none⟩ = some c := ⟨(blk_cell b.out 0).trans rfl, (blk_cell b.out 1).trans rfl⟩
theorem zC3 {w : World} {g : Nat} {t : TypeId} {a c d : Value} (b : Aside0 (w.heap[g]? = some (.cells #[a, c, d] t (0, 0)))) : w.cell? ⟨g, 0, none⟩ = some a ∧ w.cell? ⟨g, 1, none⟩ = some c ∧ w.cell? ⟨g, 2, none⟩ = some d := ⟨(blk_cell b.out 0).trans rfl, (blk_cell b.out 1).trans rfl, (blk_cell b.out 2).trans rfl⟩
theorem zC5 {w : World} {g : Nat} {t : TypeId} {a c d e f : Value} (b : Aside0 (w.heap[g]? = some (.cells #[a, c, d, e, f] t (0, 0)))) : w.cell? ⟨g, 0, none⟩ = some a ∧ w.cell? ⟨g, 1, none⟩ = some c ∧ w.cell? ⟨g, 2, none⟩ = some d ∧ w.cell? ⟨g, 3, none⟩ = some e ∧ w.cell? ⟨g, 4, none⟩ = some f := ⟨(blk_cell b.out 0).trans rfl, (blk_cell b.out 1).trans rfl, (blk_cell b.out 2).trans rfl, (blk_cell b.out 3).trans rfl, (blk_cell b.out 4).trans rfl⟩
theorem zZ {w : World} {g : Nat} {t : TypeId} {cs : Array Value} (b : Aside0 (w.heap[g]? = some (.cells cs t (0, 0)))) : ∀ i, w.frozen? ⟨g, i, none⟩ = false := fun i => blk_frozen b.out i
theorem zZ2 {w : World} {g : Nat} {t : TypeId} {cs : Array Value} (b : Aside0 (w.heap[g]? = some (.cells cs t (0, 0)))) : w.frozen? ⟨g, 0, none⟩ = false ∧ w.frozen? ⟨g, 1, none⟩ = false := ⟨zZ b 0, zZ b 1⟩
theorem zZ3 {w : World} {g : Nat} {t : TypeId} {cs : Array Value} (b : Aside0 (w.heap[g]? = some (.cells cs t (0, 0)))) : w.frozen? ⟨g, 0, none⟩ = false ∧ w.frozen? ⟨g, 1, none⟩ = false ∧ w.frozen? ⟨g, 2, none⟩ = false := ⟨zZ b 0, zZ b 1, zZ b 2⟩
theorem zZ5 {w : World} {g : Nat} {t : TypeId} {cs : Array Value} (b : Aside0 (w.heap[g]? = some (.cells cs t (0, 0)))) : w.frozen? ⟨g, 0, none⟩ = false ∧ w.frozen? ⟨g, 1, none⟩ = false ∧ w.frozen? ⟨g, 2, none⟩ = false ∧ w.frozen? ⟨g, 3, none⟩ = false ∧ w.frozen? ⟨g, 4, none⟩ = false := ⟨zZ b 0, zZ b 1, zZ b 2, zZ b 3, zZ b 4⟩
end Go.Proofs.YtndojpcjhkncgaaGreatDoor.Q
end

section
namespace Go.Proofs.YtndojpcjhkncgaaGreatDoor.Q
open Go.RowKit Go.Proofs.YtndojpcjhkncgaaGreatDoorW.PrintWords Go.Proofs.YtndojpcjhkncgaaGreatDoorW.PrintLast Go.Proofs.YtndojpcjhkncgaaGreatDoorW.PrintMore
attribute [local go_sem] max2_int min2_int max_two min_two max_three min_three max_four min_four   -- for this text's walks alone
set_option linter.unusedVariables false
set_option linter.unusedSimpArgs false
def bank_right.f (a0_0 : Int) (a0_1 : Int) (a0_2 : Int) (a0_3 : Int) (a0_4 : Int) : Option (Bool) := (bank_counts.f a0_0).bind fun t112 => (if t112 = true then ((bank_counts.f a0_1).bind fun t113 => (if t113 = true then (if a0_2 ≥ 0 then (if a0_2 ≤ 1099511627776 then (if a0_3 ≥ (-1099511627776) then (if a0_3 ≤ a0_2 then (if a0_4 = (wrap64 (a0_2 - a0_3)) then (some (decide (a0_4 ≤ 1099511627776))) else (some false)) else (some false)) else (some false)) else (some false)) else (some false)) else (some false))) else (some false))
set_option maxHeartbeats 8000000 in
set_option maxRecDepth 100000 in
theorem bank_right.calls (a0_0 : Int) (a0_1 : Int) (a0_2 : Int) (a0_3 : Int) (a0_4 : Int) (r : Bool) (w : World) (h : bank_right.f a0_0 a0_1 a0_2 a0_3 a0_4 = some r) :
  Calls Tryz.prog 43 #[.agg #[.int .i64 a0_0, .int .i64 a0_1, .int .i64 a0_2, .int .i64 a0_3, .int .i64 a0_4]] w fun e w' => e = .returned (.bool r) ∧ Below w.heap.size w w' := by
 have hu47 := Tryz.underlying47; have HB := Aside0.mk (Below.refl w.heap.size w); have H : ((bank_counts.f a0_0).bind fun t112 => (if t112 = true then ((bank_counts.f a0_1).bind fun t113 => (if t113 = true then (if a0_2 ≥ 0 then (if a0_2 ≤ 1099511627776 then (if a0_3 ≥ (-1099511627776) then (if a0_3 ≤ a0_2 then (if a0_4 = (wrap64 (a0_2 - a0_3)) then (some (decide (a0_4 ≤ 1099511627776))) else (some false)) else (some false)) else (some false)) else (some false)) else (some false)) else (some false))) else (some false))) = some r := h; clear h; replace H := Option.bind_eq_some_iff.mp H; obtain ⟨t112, A20, H⟩ := H; replace H : (if t112 = true then ((bank_counts.f a0_1).bind fun t113 => (if t113 = true then (if a0_2 ≥ 0 then (if a0_2 ≤ 1099511627776 then (if a0_3 ≥ (-1099511627776) then (if a0_3 ≤ a0_2 then (if a0_4 = (wrap64 (a0_2 - a0_3)) then (some (decide (a0_4 ≤ 1099511627776))) else (some false)) else (some false)) else (some false)) else (some false)) else (some false)) else (some false))) else (some false)) = some r := H; have A2 := Aside0.mk A20; clear A20
 by_cases c3 : t112 = true
 ·
  subst c3
  have H1 : ((bank_counts.f a0_1).bind fun t113 => (if t113 = true then (if a0_2 ≥ 0 then (if a0_2 ≤ 1099511627776 then (if a0_3 ≥ (-1099511627776) then (if a0_3 ≤ a0_2 then (if a0_4 = (wrap64 (a0_2 - a0_3)) then (some (decide (a0_4 ≤ 1099511627776))) else (some false)) else (some false)) else (some false)) else (some false)) else (some false)) else (some false))) = some r := by rw [if_pos rfl] at H; exact H
  clear H; have H := H1; clear H1; replace H := Option.bind_eq_some_iff.mp H; obtain ⟨t113, A40, H⟩ := H; replace H : (if t113 = true then (if a0_2 ≥ 0 then (if a0_2 ≤ 1099511627776 then (if a0_3 ≥ (-1099511627776) then (if a0_3 ≤ a0_2 then (if a0_4 = (wrap64 (a0_2 - a0_3)) then (some (decide (a0_4 ≤ 1099511627776))) else (some false)) else (some false)) else (some false)) else (some false)) else (some false)) else (some false)) = some r := H; have A4 := Aside0.mk A40; clear A40
  by_cases c5 : t113 = true
  ·
   subst c5
   have H1 : (if a0_2 ≥ 0 then (if a0_2 ≤ 1099511627776 then (if a0_3 ≥ (-1099511627776) then (if a0_3 ≤ a0_2 then (if a0_4 = (wrap64 (a0_2 - a0_3)) then (some (decide (a0_4 ≤ 1099511627776))) else (some false)) else (some false)) else (some false)) else (some false)) else (some false)) = some r := by rw [if_pos rfl] at H; exact H
   clear H; have H := H1; clear H1
   by_cases c6 : a0_2 ≥ 0
   ·
    rw [if_pos c6] at H
    have c6b0 : decide (0 ≤ a0_2) = true := decide_eq_true c6; clear c6
    by_cases c7 : a0_2 ≤ 1099511627776
    ·
     rw [if_pos c7] at H
     have c7b0 : decide (a0_2 ≤ 1099511627776) = true := decide_eq_true c7; clear c7
     by_cases c8 : a0_3 ≥ (-1099511627776)
     ·
      rw [if_pos c8] at H
      have c8b0 : decide ((-1099511627776) ≤ a0_3) = true := decide_eq_true c8; clear c8
      by_cases c9 : a0_3 ≤ a0_2
      ·
       rw [if_pos c9] at H
       have c9b0 : decide (a0_3 ≤ a0_2) = true := decide_eq_true c9; clear c9
       by_cases c10 : a0_4 = (wrap64 (a0_2 - a0_3))
       ·
        rw [if_pos c10] at H
        have c10b0 : (a0_4 == (wrap64 (a0_2 - a0_3))) = true := beq_iff_eq.mpr c10; have c10b1 : (a0_4 != (wrap64 (a0_2 - a0_3))) = false := bne_eq_false_iff_eq.mpr c10; clear c10; obtain rfl := Option.some.inj H
        go_enter Tryz.func43, Tryz.ntmps43
        go_wp2_with (first | ((with_reducible refine gate_dst (N := 1) rfl ?_); refine box_event ?hg (N := 1) ?hd (cs := #[.int .i64 a0_0, .int .i64 a0_1, .int .i64 a0_2, .int .i64 a0_3, .int .i64 a0_4]) (t := 47) ?hr ?_; (case hd => rfl); (case hg => rfl); (case hr => first | (go_simp; done) | (go_simp; rfl)); intro gb111 hg w11 hbox hb; have BK111 := Aside0.mk (hbox); have GW111 := zG (w := w) hg; have GE111 := zG (w := w) hg; replace HB := zBs hb; clear hb hbox hg; obtain ⟨hcz12_0, hcz12_1, hcz12_2, hcz12_3, hcz12_4⟩ := zC5 BK111; obtain ⟨hfz12_0, hfz12_1, hfz12_2, hfz12_3, hfz12_4⟩ := zZ5 BK111) | ((with_reducible refine gate_callee (f := 53) rfl ?_); refine goesL_ (some 5) rfl rfl Tryz.func53 (by kernel_rfl) rfl #[.int .i64 a0_0] rfl (by (try simp only [List.map_toArray, List.map_cons, List.map_nil]); try rfl) ?_; (with_reducible refine (bank_counts.calls a0_0 true _ A2.out).mono ?_); rintro e w' ⟨rfl, ⟨nd, rfl⟩⟩; refine ⟨_, rfl, ?_⟩) | (go_at_call 53; (with_reducible refine (bank_counts.calls a0_1 true _ A4.out).mono ?_); rintro e w' ⟨rfl, ⟨nd, rfl⟩⟩))
        go_ret
        exact ⟨zE, zB⟩
       ·
        rw [if_neg c10] at H
        have c10b0 : (a0_4 == (wrap64 (a0_2 - a0_3))) = false := beq_eq_false_iff_ne.mpr c10; have c10b1 : (a0_4 != (wrap64 (a0_2 - a0_3))) = true := bne_iff_ne.mpr c10; obtain rfl := Option.some.inj H
        go_enter Tryz.func43, Tryz.ntmps43
        go_wp2_with (first | ((with_reducible refine gate_dst (N := 1) rfl ?_); refine box_event ?hg (N := 1) ?hd (cs := #[.int .i64 a0_0, .int .i64 a0_1, .int .i64 a0_2, .int .i64 a0_3, .int .i64 a0_4]) (t := 47) ?hr ?_; (case hd => rfl); (case hg => rfl); (case hr => first | (go_simp; done) | (go_simp; rfl)); intro gb111 hg w13 hbox hb; have BK111 := Aside0.mk (hbox); have GW111 := zG (w := w) hg; have GE111 := zG (w := w) hg; replace HB := zBs hb; clear hb hbox hg; obtain ⟨hcz14_0, hcz14_1, hcz14_2, hcz14_3, hcz14_4⟩ := zC5 BK111; obtain ⟨hfz14_0, hfz14_1, hfz14_2, hfz14_3, hfz14_4⟩ := zZ5 BK111) | ((with_reducible refine gate_callee (f := 53) rfl ?_); refine goesL_ (some 5) rfl rfl Tryz.func53 (by kernel_rfl) rfl #[.int .i64 a0_0] rfl (by (try simp only [List.map_toArray, List.map_cons, List.map_nil]); try rfl) ?_; (with_reducible refine (bank_counts.calls a0_0 true _ A2.out).mono ?_); rintro e w' ⟨rfl, ⟨nd, rfl⟩⟩; refine ⟨_, rfl, ?_⟩) | (go_at_call 53; (with_reducible refine (bank_counts.calls a0_1 true _ A4.out).mono ?_); rintro e w' ⟨rfl, ⟨nd, rfl⟩⟩))
        go_ret
        exact ⟨zE, zB⟩
      ·
       rw [if_neg c9] at H
       have c9b0 : decide (a0_3 ≤ a0_2) = false := decide_eq_false c9; clear c9; obtain rfl := Option.some.inj H
       go_enter Tryz.func43, Tryz.ntmps43
       go_wp2_with (first | ((with_reducible refine gate_dst (N := 1) rfl ?_); refine box_event ?hg (N := 1) ?hd (cs := #[.int .i64 a0_0, .int .i64 a0_1, .int .i64 a0_2, .int .i64 a0_3, .int .i64 a0_4]) (t := 47) ?hr ?_; (case hd => rfl); (case hg => rfl); (case hr => first | (go_simp; done) | (go_simp; rfl)); intro gb111 hg w15 hbox hb; have BK111 := Aside0.mk (hbox); have GW111 := zG (w := w) hg; have GE111 := zG (w := w) hg; replace HB := zBs hb; clear hb hbox hg; obtain ⟨hcz16_0, hcz16_1, hcz16_2, hcz16_3, hcz16_4⟩ := zC5 BK111; obtain ⟨hfz16_0, hfz16_1, hfz16_2, hfz16_3, hfz16_4⟩ := zZ5 BK111) | ((with_reducible refine gate_callee (f := 53) rfl ?_); refine goesL_ (some 5) rfl rfl Tryz.func53 (by kernel_rfl) rfl #[.int .i64 a0_0] rfl (by (try simp only [List.map_toArray, List.map_cons, List.map_nil]); try rfl) ?_; (with_reducible refine (bank_counts.calls a0_0 true _ A2.out).mono ?_); rintro e w' ⟨rfl, ⟨nd, rfl⟩⟩; refine ⟨_, rfl, ?_⟩) | (go_at_call 53; (with_reducible refine (bank_counts.calls a0_1 true _ A4.out).mono ?_); rintro e w' ⟨rfl, ⟨nd, rfl⟩⟩))
       go_ret
       exact ⟨zE, zB⟩
     ·
      rw [if_neg c8] at H
      have c8b0 : decide ((-1099511627776) ≤ a0_3) = false := decide_eq_false c8; clear c8; obtain rfl := Option.some.inj H
      go_enter Tryz.func43, Tryz.ntmps43
      go_wp2_with (first | ((with_reducible refine gate_dst (N := 1) rfl ?_); refine box_event ?hg (N := 1) ?hd (cs := #[.int .i64 a0_0, .int .i64 a0_1, .int .i64 a0_2, .int .i64 a0_3, .int .i64 a0_4]) (t := 47) ?hr ?_; (case hd => rfl); (case hg => rfl); (case hr => first | (go_simp; done) | (go_simp; rfl)); intro gb111 hg w17 hbox hb; have BK111 := Aside0.mk (hbox); have GW111 := zG (w := w) hg; have GE111 := zG (w := w) hg; replace HB := zBs hb; clear hb hbox hg; obtain ⟨hcz18_0, hcz18_1, hcz18_2, hcz18_3, hcz18_4⟩ := zC5 BK111; obtain ⟨hfz18_0, hfz18_1, hfz18_2, hfz18_3, hfz18_4⟩ := zZ5 BK111) | ((with_reducible refine gate_callee (f := 53) rfl ?_); refine goesL_ (some 5) rfl rfl Tryz.func53 (by kernel_rfl) rfl #[.int .i64 a0_0] rfl (by (try simp only [List.map_toArray, List.map_cons, List.map_nil]); try rfl) ?_; (with_reducible refine (bank_counts.calls a0_0 true _ A2.out).mono ?_); rintro e w' ⟨rfl, ⟨nd, rfl⟩⟩; refine ⟨_, rfl, ?_⟩) | (go_at_call 53; (with_reducible refine (bank_counts.calls a0_1 true _ A4.out).mono ?_); rintro e w' ⟨rfl, ⟨nd, rfl⟩⟩))
      go_ret
      exact ⟨zE, zB⟩
    ·
     rw [if_neg c7] at H
     have c7b0 : decide (a0_2 ≤ 1099511627776) = false := decide_eq_false c7; clear c7; obtain rfl := Option.some.inj H
     go_enter Tryz.func43, Tryz.ntmps43
     go_wp2_with (first | ((with_reducible refine gate_dst (N := 1) rfl ?_); refine box_event ?hg (N := 1) ?hd (cs := #[.int .i64 a0_0, .int .i64 a0_1, .int .i64 a0_2, .int .i64 a0_3, .int .i64 a0_4]) (t := 47) ?hr ?_; (case hd => rfl); (case hg => rfl); (case hr => first | (go_simp; done) | (go_simp; rfl)); intro gb111 hg w19 hbox hb; have BK111 := Aside0.mk (hbox); have GW111 := zG (w := w) hg; have GE111 := zG (w := w) hg; replace HB := zBs hb; clear hb hbox hg; obtain ⟨hcz20_0, hcz20_1, hcz20_2, hcz20_3, hcz20_4⟩ := zC5 BK111; obtain ⟨hfz20_0, hfz20_1, hfz20_2, hfz20_3, hfz20_4⟩ := zZ5 BK111) | ((with_reducible refine gate_callee (f := 53) rfl ?_); refine goesL_ (some 5) rfl rfl Tryz.func53 (by kernel_rfl) rfl #[.int .i64 a0_0] rfl (by (try simp only [List.map_toArray, List.map_cons, List.map_nil]); try rfl) ?_; (with_reducible refine (bank_counts.calls a0_0 true _ A2.out).mono ?_); rintro e w' ⟨rfl, ⟨nd, rfl⟩⟩; refine ⟨_, rfl, ?_⟩) | (go_at_call 53; (with_reducible refine (bank_counts.calls a0_1 true _ A4.out).mono ?_); rintro e w' ⟨rfl, ⟨nd, rfl⟩⟩))
     go_ret
     exact ⟨zE, zB⟩
   ·
    rw [if_neg c6] at H
    have c6b0 : decide (0 ≤ a0_2) = false := decide_eq_false c6; clear c6; obtain rfl := Option.some.inj H
    go_enter Tryz.func43, Tryz.ntmps43
    go_wp2_with (first | ((with_reducible refine gate_dst (N := 1) rfl ?_); refine box_event ?hg (N := 1) ?hd (cs := #[.int .i64 a0_0, .int .i64 a0_1, .int .i64 a0_2, .int .i64 a0_3, .int .i64 a0_4]) (t := 47) ?hr ?_; (case hd => rfl); (case hg => rfl); (case hr => first | (go_simp; done) | (go_simp; rfl)); intro gb111 hg w21 hbox hb; have BK111 := Aside0.mk (hbox); have GW111 := zG (w := w) hg; have GE111 := zG (w := w) hg; replace HB := zBs hb; clear hb hbox hg; obtain ⟨hcz22_0, hcz22_1, hcz22_2, hcz22_3, hcz22_4⟩ := zC5 BK111; obtain ⟨hfz22_0, hfz22_1, hfz22_2, hfz22_3, hfz22_4⟩ := zZ5 BK111) | ((with_reducible refine gate_callee (f := 53) rfl ?_); refine goesL_ (some 5) rfl rfl Tryz.func53 (by kernel_rfl) rfl #[.int .i64 a0_0] rfl (by (try simp only [List.map_toArray, List.map_cons, List.map_nil]); try rfl) ?_; (with_reducible refine (bank_counts.calls a0_0 true _ A2.out).mono ?_); rintro e w' ⟨rfl, ⟨nd, rfl⟩⟩; refine ⟨_, rfl, ?_⟩) | (go_at_call 53; (with_reducible refine (bank_counts.calls a0_1 true _ A4.out).mono ?_); rintro e w' ⟨rfl, ⟨nd, rfl⟩⟩))
    go_ret
    exact ⟨zE, zB⟩
  ·
   replace c5 := Bool.eq_false_iff.mpr c5; subst c5
   have H1 : (some false) = some r := by rw [if_neg (show ¬ (false = true) by decide)] at H; exact H
   clear H; have H := H1; clear H1; obtain rfl := Option.some.inj H
   go_enter Tryz.func43, Tryz.ntmps43
   go_wp2_with (first | ((with_reducible refine gate_dst (N := 1) rfl ?_); refine box_event ?hg (N := 1) ?hd (cs := #[.int .i64 a0_0, .int .i64 a0_1, .int .i64 a0_2, .int .i64 a0_3, .int .i64 a0_4]) (t := 47) ?hr ?_; (case hd => rfl); (case hg => rfl); (case hr => first | (go_simp; done) | (go_simp; rfl)); intro gb111 hg w23 hbox hb; have BK111 := Aside0.mk (hbox); have GW111 := zG (w := w) hg; have GE111 := zG (w := w) hg; replace HB := zBs hb; clear hb hbox hg; obtain ⟨hcz24_0, hcz24_1, hcz24_2, hcz24_3, hcz24_4⟩ := zC5 BK111; obtain ⟨hfz24_0, hfz24_1, hfz24_2, hfz24_3, hfz24_4⟩ := zZ5 BK111) | ((with_reducible refine gate_callee (f := 53) rfl ?_); refine goesL_ (some 5) rfl rfl Tryz.func53 (by kernel_rfl) rfl #[.int .i64 a0_0] rfl (by (try simp only [List.map_toArray, List.map_cons, List.map_nil]); try rfl) ?_; (with_reducible refine (bank_counts.calls a0_0 true _ A2.out).mono ?_); rintro e w' ⟨rfl, ⟨nd, rfl⟩⟩; refine ⟨_, rfl, ?_⟩) | (go_at_call 53; (with_reducible refine (bank_counts.calls a0_1 false _ A4.out).mono ?_); rintro e w' ⟨rfl, ⟨nd, rfl⟩⟩))
   go_ret
   exact ⟨zE, zB⟩
 ·
  replace c3 := Bool.eq_false_iff.mpr c3; subst c3
  have H1 : (some false) = some r := by rw [if_neg (show ¬ (false = true) by decide)] at H; exact H
  clear H; have H := H1; clear H1; obtain rfl := Option.some.inj H
  go_enter Tryz.func43, Tryz.ntmps43
  go_wp2_with (first | ((with_reducible refine gate_dst (N := 1) rfl ?_); refine box_event ?hg (N := 1) ?hd (cs := #[.int .i64 a0_0, .int .i64 a0_1, .int .i64 a0_2, .int .i64 a0_3, .int .i64 a0_4]) (t := 47) ?hr ?_; (case hd => rfl); (case hg => rfl); (case hr => first | (go_simp; done) | (go_simp; rfl)); intro gb111 hg w25 hbox hb; have BK111 := Aside0.mk (hbox); have GW111 := zG (w := w) hg; have GE111 := zG (w := w) hg; replace HB := zBs hb; clear hb hbox hg; obtain ⟨hcz26_0, hcz26_1, hcz26_2, hcz26_3, hcz26_4⟩ := zC5 BK111; obtain ⟨hfz26_0, hfz26_1, hfz26_2, hfz26_3, hfz26_4⟩ := zZ5 BK111) | ((with_reducible refine gate_callee (f := 53) rfl ?_); refine goesL_ (some 5) rfl rfl Tryz.func53 (by kernel_rfl) rfl #[.int .i64 a0_0] rfl (by (try simp only [List.map_toArray, List.map_cons, List.map_nil]); try rfl) ?_; (with_reducible refine (bank_counts.calls a0_0 false _ A2.out).mono ?_); rintro e w' ⟨rfl, ⟨nd, rfl⟩⟩; refine ⟨_, rfl, ?_⟩))
  go_ret
  exact ⟨zE, zB⟩
end Go.Proofs.YtndojpcjhkncgaaGreatDoor.Q
end

section
namespace Go.Proofs.YtndojpcjhkncgaaGreatDoor.Q
open Go.RowKit Go.Proofs.YtndojpcjhkncgaaGreatDoorW.PrintWords Go.Proofs.YtndojpcjhkncgaaGreatDoorW.PrintLast Go.Proofs.YtndojpcjhkncgaaGreatDoorW.PrintMore
attribute [local go_sem] max2_int min2_int max_two min_two max_three min_three max_four min_four   -- for this text's walks alone
set_option linter.unusedVariables false
set_option linter.unusedSimpArgs false
mutual
def bank_Valid.j0 : Nat → Bool → Int → Int → List (S47) → Option (Bool)
 | 0, _, _, _, _ => none
 | k + 1, x18, x115000, x115001, x115002 => if x18 = true then (some false) else (bank_Valid.l0 k 0 0 x115002 (x115002.length : Int) 0)
def bank_Valid.l0 : Nat → Int → Int → List (S47) → Int → Int → Option (Bool)
 | 0, _, _, _, _, _ => none
 | k + 1, x3, x4, x20, x21, x22 => if x22 < x21 then (if 0 ≤ x22 then (if x22 < (x20.length : Int) then ((bank_right.f ((rd_T47 x20 x22).f0) ((rd_T47 x20 x22).f1) ((rd_T47 x20 x22).f2) ((rd_T47 x20 x22).f3) ((rd_T47 x20 x22).f4)).bind fun t118 => (if t118 = true then (if ((rd_T47 x20 x22).f0) ≤ x3 then (some false) else (if (wrap64 (x4 + ((rd_T47 x20 x22).f4))) > 1099511627776 then (some false) else (bank_Valid.l0 k ((rd_T47 x20 x22).f0) (wrap64 (x4 + ((rd_T47 x20 x22).f4))) x20 x21 (wrap64 (x22 + 1))))) else (some false))) else (none)) else (none)) else (some true)
end
def bank_Valid.f (k : Nat) (a0_0 : Int) (a0_1 : Int) (l0_2 : List (S47)) : Option (Bool) := (bank_dated.f a0_0 a0_1).bind fun t115 => (if t115 = true then (bank_Valid.j0 k (decide ((l0_2.length : Int) > 1000)) a0_0 a0_1 l0_2) else (bank_Valid.j0 k true a0_0 a0_1 l0_2))
set_option maxHeartbeats 8000000 in
set_option maxRecDepth 100000 in
theorem bank_Valid.calls (k : Nat) (a0_0 : Int) (a0_1 : Int) (A0_2 : Option Addr) (c0_2 : Nat) (l0_2 : List (S47)) (r : Bool) (w : World) (hr0_2 : Kd.C k47 w A0_2 l0_2.length l0_2) (hc0_2 : l0_2.length ≤ c0_2) (h : bank_Valid.f k a0_0 a0_1 l0_2 = some r) :
  Calls Tryz.prog 22 #[.agg #[.int .i64 a0_0, .int .i64 a0_1, .slice A0_2 l0_2.length c0_2]] w fun e w' => e = .returned (.bool r) ∧ Below w.heap.size w w' := by
 have hu27 := Tryz.underlying27; have hu47 := Tryz.underlying47; have HR0_2 := Aside0.mk hr0_2; have HC0_2 := Aside0.mk hc0_2; clear hr0_2 hc0_2; have HB := Aside0.mk (Below.refl w.heap.size w); have H : ((bank_dated.f a0_0 a0_1).bind fun t115 => (if t115 = true then (bank_Valid.j0 k (decide ((l0_2.length : Int) > 1000)) a0_0 a0_1 l0_2) else (bank_Valid.j0 k true a0_0 a0_1 l0_2))) = some r := h; clear h; have HC2 := Aside0.mk H; clear H
 go_enter Tryz.func22, Tryz.ntmps22
 go_upto_region 1 with (first | ((with_reducible refine gate_dst (N := 1) rfl ?_); (try (refine gate_guard (by rfl) ?_; dsimp only)); refine box_event ?hg (N := 1) ?hd (cs := #[.int .i64 a0_0, .int .i64 a0_1, .slice A0_2 l0_2.length c0_2]) (t := 27) ?hr ?_; (case hd => rfl); (case hg => rfl); (case hr => first | (go_simp; done) | (go_simp; rfl)); intro gb114 hg w3 hbox hb; have BK114 := Aside0.mk (hbox); have GW114 := zG (w := w) hg; have GE114 := zG (w := w) hg; replace HB := zBs hb; clear hb hbox hg))
 (try simp only [Act.put, List.setIfInBounds_toArray, List.set_cons_zero, List.set_cons_succ])
 go_cut [18] (fun v18 wc => ∃ (kq : Nat) (x18_1 : Bool), v18 = .bool x18_1 ∧ Aside0 (bank_Valid.j0 kq x18_1 a0_0 a0_1 l0_2 = some r) ∧ Aside0 (kq ≤ k) ∧ Aside0 (wc.heap[gb114]? = some (.cells #[.int .i64 a0_0, .int .i64 a0_1, (.slice A0_2 l0_2.length c0_2)] 27 (0, 0))) ∧ Aside0 (Below w.heap.size w wc))
 case first =>
  have H := HC2.out; clear HC2; replace H := Option.bind_eq_some_iff.mp H; obtain ⟨t115, A40, H⟩ := H; replace H : (if t115 = true then (bank_Valid.j0 k (decide ((l0_2.length : Int) > 1000)) a0_0 a0_1 l0_2) else (bank_Valid.j0 k true a0_0 a0_1 l0_2)) = some r := H; have A4 := Aside0.mk A40; clear A40
  by_cases c5 : t115 = true
  ·
   subst c5
   have H1 : (bank_Valid.j0 k (decide ((l0_2.length : Int) > 1000)) a0_0 a0_1 l0_2) = some r := by rw [if_pos rfl] at H; exact H
   clear H; have H := H1; clear H1; have H' := Aside0.mk H; clear H; obtain ⟨hcz6_0, hcz6_1, hcz6_2⟩ := zC3 BK114; obtain ⟨hfz6_0, hfz6_1, hfz6_2⟩ := zZ3 BK114
   go_wp2_with (first | ((with_reducible refine gate_callee (f := 42) rfl ?_); refine goesL_ (some 11) rfl rfl Tryz.func42 (by kernel_rfl) rfl #[.int .i64 a0_0, .int .i64 a0_1] rfl (by (try simp only [List.map_toArray, List.map_cons, List.map_nil]); try rfl) ?_; (with_reducible refine (bank_dated.calls a0_0 a0_1 true _ A4.out).mono ?_); rintro e w' ⟨rfl, ⟨nd, rfl⟩⟩; refine ⟨_, rfl, ?_⟩))
   go_meet
   case rel => exact ⟨_, (decide ((l0_2.length : Int) > 1000)), (by first | rfl | (simp; done) | (simp [*]; done)), H', ⟨by first | omega | exact Nat.le_refl _⟩, ⟨zK BK114⟩, ⟨zB⟩⟩
  ·
   replace c5 := Bool.eq_false_iff.mpr c5; subst c5
   have H1 : (bank_Valid.j0 k true a0_0 a0_1 l0_2) = some r := by rw [if_neg (show ¬ (false = true) by decide)] at H; exact H
   clear H; have H := H1; clear H1; have H' := Aside0.mk H; clear H; obtain ⟨hcz7_0, hcz7_1, hcz7_2⟩ := zC3 BK114; obtain ⟨hfz7_0, hfz7_1, hfz7_2⟩ := zZ3 BK114
   go_wp2_with (first | ((with_reducible refine gate_callee (f := 42) rfl ?_); refine goesL_ (some 11) rfl rfl Tryz.func42 (by kernel_rfl) rfl #[.int .i64 a0_0, .int .i64 a0_1] rfl (by (try simp only [List.map_toArray, List.map_cons, List.map_nil]); try rfl) ?_; (with_reducible refine (bank_dated.calls a0_0 a0_1 false _ A4.out).mono ?_); rintro e w' ⟨rfl, ⟨nd, rfl⟩⟩; refine ⟨_, rfl, ?_⟩))
   go_meet
   case rel => exact ⟨_, (true), (by first | rfl | (simp; done) | (simp [*]; done)), H', ⟨by first | omega | exact Nat.le_refl _⟩, ⟨zK BK114⟩, ⟨zB⟩⟩
 case rest =>
  clear HC2
  try clear c2
  try clear p2
  try clear c4
  try clear c5
  try clear hcz6_0
  try clear hcz6_1
  try clear hcz6_2
  try clear hcz7_0
  try clear hcz7_1
  try clear hcz7_2
  try clear hfz6_0
  try clear hfz6_1
  try clear hfz6_2
  try clear hfz7_0
  try clear hfz7_1
  try clear hfz7_2
  obtain ⟨kq, x18_1, rfl, HA, HJ1, BK114, HB⟩ := hcut
  cases kq with
  | zero => exact absurd HA.out (by simp [bank_Valid.j0])
  | succ kj1 =>
   have H := HA.out; clear HA
   simp only [bank_Valid.j0] at H
   by_cases c8 : x18_1 = true
   ·
    subst c8
    have H1 : (some false) = some r := by rw [if_pos rfl] at H; exact H
    clear H; have H := H1; clear H1; obtain rfl := Option.some.inj H
    go_wp2
    go_ret
    exact ⟨zE, zB⟩
   ·
    replace c8 := Bool.eq_false_iff.mpr c8; subst c8
    have H1 : (bank_Valid.l0 kj1 0 0 l0_2 (l0_2.length : Int) 0) = some r := by rw [if_neg (show ¬ (false = true) by decide)] at H; exact H
    clear H; have H := H1; clear H1; have H' := Aside0.mk H; clear H; obtain ⟨hcz9_0, hcz9_1, hcz9_2⟩ := zC3 BK114; obtain ⟨hfz9_0, hfz9_1, hfz9_2⟩ := zZ3 BK114
    go_wp2
    go_loopg [3, 4, 22] kj1 (fun kq v3 v4 v22 w' => ∃ (x3_2 : Int) (x4_2 : Int) (x22_2 : Int), v3 = .int .i64 x3_2 ∧ v4 = .int .i64 x4_2 ∧ v22 = .int .i64 x22_2 ∧ Aside0 (bank_Valid.l0 kq x3_2 x4_2 l0_2 (l0_2.length : Int) x22_2 = some r) ∧ Aside0 (kq ≤ kj1) ∧ Aside0 (w'.heap[gb114]? = some (.cells #[.int .i64 a0_0, .int .i64 a0_1, (.slice A0_2 l0_2.length c0_2)] 27 (0, 0))) ∧ Aside0 (Below w.heap.size w w'))
    case atStart => exact ⟨(0), (0), (0), (by first | rfl | (simp; done) | (simp [*]; done)), (by first | rfl | (simp; done) | (simp [*]; done)), (by first | rfl | (simp; done) | (simp [*]; done)), H', ⟨Nat.le_refl _⟩, ⟨zK BK114⟩, ⟨zB⟩⟩
    case round =>
     clear H'
     try clear c2
     try clear p2
     try clear c4
     try clear c5
     try clear c8
     try clear hcz6_0
     try clear hcz6_1
     try clear hcz6_2
     try clear hcz7_0
     try clear hcz7_1
     try clear hcz7_2
     try clear hcz9_0
     try clear hcz9_1
     try clear hcz9_2
     try clear hfz6_0
     try clear hfz6_1
     try clear hfz6_2
     try clear hfz7_0
     try clear hfz7_1
     try clear hfz7_2
     try clear hfz9_0
     try clear hfz9_1
     try clear hfz9_2
     try clear p2
     obtain ⟨x3_2, x4_2, x22_2, rfl, rfl, rfl, HA, HK2, BK114, HB⟩ := hrel
     cases gk with
     | zero => exact absurd HA.out (by simp [bank_Valid.l0])
     | succ k2 =>
      have H := HA.out; clear HA
      simp only [bank_Valid.l0] at H
      by_cases c10 : x22_2 < (l0_2.length : Int)
      ·
       rw [if_pos c10] at H
       have c10b0 : decide (x22_2 < (l0_2.length : Int)) = true := decide_eq_true c10; clear c10
       by_cases c11 : 0 ≤ x22_2
       ·
        rw [if_pos c11] at H
        have c11b0 : decide (0 ≤ x22_2) = true := decide_eq_true c11; clear c11
        by_cases c12 : x22_2 < (l0_2.length : Int)
        ·
         rw [if_pos c12] at H
         have c12b0 : decide (x22_2 < (l0_2.length : Int)) = true := decide_eq_true c12; clear c12; replace H := Option.bind_eq_some_iff.mp H; obtain ⟨t118, A130, H⟩ := H; replace H : (if t118 = true then (if ((rd_T47 l0_2 x22_2).f0) ≤ x3_2 then (some false) else (if (wrap64 (x4_2 + ((rd_T47 l0_2 x22_2).f4))) > 1099511627776 then (some false) else (bank_Valid.l0 k2 ((rd_T47 l0_2 x22_2).f0) (wrap64 (x4_2 + ((rd_T47 l0_2 x22_2).f4))) l0_2 (l0_2.length : Int) (wrap64 (x22_2 + 1))))) else (some false)) = some r := H; have A13 := Aside0.mk A130; clear A130
         by_cases c14 : t118 = true
         ·
          subst c14
          have H1 : (if ((rd_T47 l0_2 x22_2).f0) ≤ x3_2 then (some false) else (if (wrap64 (x4_2 + ((rd_T47 l0_2 x22_2).f4))) > 1099511627776 then (some false) else (bank_Valid.l0 k2 ((rd_T47 l0_2 x22_2).f0) (wrap64 (x4_2 + ((rd_T47 l0_2 x22_2).f4))) l0_2 (l0_2.length : Int) (wrap64 (x22_2 + 1))))) = some r := by rw [if_pos rfl] at H; exact H
          clear H; have H := H1; clear H1
          by_cases c15 : ((rd_T47 l0_2 x22_2).f0) ≤ x3_2
          ·
           rw [if_pos c15] at H
           have c15b0 : decide (((rd_T47 l0_2 x22_2).f0) ≤ x3_2) = true := decide_eq_true c15; clear c15; obtain rfl := Option.some.inj H; have p116 : 0 ≤ (x22_2 : Int) := zD; have q116 : x22_2 < (l0_2.length : Int) := zD; obtain ⟨ad116, e116, hx116_0, hx116_1, hx116_2, hx116_3, hx116_4⟩ := at_T47 HR0_2.out x22_2 p116 q116
           cases e116
           replace hx116_0 := zL HB hx116_0; replace hx116_1 := zL HB hx116_1; replace hx116_2 := zL HB hx116_2; replace hx116_3 := zL HB hx116_3; replace hx116_4 := zL HB hx116_4; replace p116 := eq_true p116; replace q116 := eq_true q116
           go_wp2_with (first | ((with_reducible refine gate_dst (N := 6) rfl ?_); (try (refine gate_guard (by rfl) ?_; dsimp only)); refine box_event ?hg (N := 6) ?hd (cs := #[.int .i64 0, .int .i64 0, .int .i64 0, .int .i64 0, .int .i64 0]) (t := 47) ?hr ?_; (case hd => rfl); (case hg => rfl); (case hr => first | (go_simp; done) | (go_simp; rfl)); intro gb117 hg w16 hbox hb; have BK117 := Aside0.mk (hbox); have GW117 := zG (w := w) hg; have GE117 := zG (w := w) hg; replace HB := zBs hb; have NB114_117 := zN hg (zK BK114); have NB117_114 := zM hg (zK BK114); replace BK114 := zKb BK114 hb; clear hb hbox hg; have hnb17 := NB117_114.out; have hnc17 := NB114_117.out; obtain ⟨hcz18_0, hcz18_1, hcz18_2, hcz18_3, hcz18_4⟩ := zC5 BK117; obtain ⟨hfz18_0, hfz18_1, hfz18_2, hfz18_3, hfz18_4⟩ := zZ5 BK117) | ((with_reducible refine gate_callee (f := 43) rfl ?_); refine goesL_ (some 31) rfl rfl Tryz.func43 (by kernel_rfl) rfl #[.agg #[.int .i64 ((rd_T47 l0_2 x22_2).f0), .int .i64 ((rd_T47 l0_2 x22_2).f1), .int .i64 ((rd_T47 l0_2 x22_2).f2), .int .i64 ((rd_T47 l0_2 x22_2).f3), .int .i64 ((rd_T47 l0_2 x22_2).f4)]] rfl (by (try simp only [List.map_toArray, List.map_cons, List.map_nil]); try rfl) ?_; (with_reducible refine (bank_right.calls ((rd_T47 l0_2 x22_2).f0) ((rd_T47 l0_2 x22_2).f1) ((rd_T47 l0_2 x22_2).f2) ((rd_T47 l0_2 x22_2).f3) ((rd_T47 l0_2 x22_2).f4) true _ A13.out).mono ?_); rintro e w19 ⟨rfl, hb⟩; refine ⟨_, rfl, ?_⟩; replace BK114 := Aside0.mk (blk_below (zF BK114) hb); replace BK117 := Aside0.mk (blk_below (g := gb117) (o := .cells #[.int .i64 ((rd_T47 l0_2 x22_2).f0), .int .i64 ((rd_T47 l0_2 x22_2).f1), .int .i64 ((rd_T47 l0_2 x22_2).f2), .int .i64 ((rd_T47 l0_2 x22_2).f3), .int .i64 ((rd_T47 l0_2 x22_2).f4)] 47 (0, 0)) (by (with_reducible repeat (first | apply blk_drewN | apply blk_drew | apply blk_alloc)); refine blk_put (cs := #[.int .i64 ((rd_T47 l0_2 x22_2).f0), .int .i64 ((rd_T47 l0_2 x22_2).f1), .int .i64 ((rd_T47 l0_2 x22_2).f2), .int .i64 ((rd_T47 l0_2 x22_2).f3), .int .i64 0]) ?_ 4 _ rfl; (with_reducible repeat (first | apply blk_drewN | apply blk_drew | apply blk_alloc)); refine blk_put (cs := #[.int .i64 ((rd_T47 l0_2 x22_2).f0), .int .i64 ((rd_T47 l0_2 x22_2).f1), .int .i64 ((rd_T47 l0_2 x22_2).f2), .int .i64 0, .int .i64 0]) ?_ 3 _ rfl; (with_reducible repeat (first | apply blk_drewN | apply blk_drew | apply blk_alloc)); refine blk_put (cs := #[.int .i64 ((rd_T47 l0_2 x22_2).f0), .int .i64 ((rd_T47 l0_2 x22_2).f1), .int .i64 0, .int .i64 0, .int .i64 0]) ?_ 2 _ rfl; (with_reducible repeat (first | apply blk_drewN | apply blk_drew | apply blk_alloc)); refine blk_put (cs := #[.int .i64 ((rd_T47 l0_2 x22_2).f0), .int .i64 0, .int .i64 0, .int .i64 0, .int .i64 0]) ?_ 1 _ rfl; (with_reducible repeat (first | apply blk_drewN | apply blk_drew | apply blk_alloc)); refine blk_put (cs := #[.int .i64 0, .int .i64 0, .int .i64 0, .int .i64 0, .int .i64 0]) ?_ 0 _ rfl; (with_reducible repeat (first | apply blk_drewN | apply blk_drew | apply blk_alloc)); exact BK117.out) hb); replace HB := zBs hb; (try clear hb); (try clear hb2); (try clear hk); (try clear hi); obtain ⟨hcz20_0, hcz20_1, hcz20_2, hcz20_3, hcz20_4⟩ := zC5 BK117; obtain ⟨hfz20_0, hfz20_1, hfz20_2, hfz20_3, hfz20_4⟩ := zZ5 BK117))
           go_ret
           exact ⟨zE, zB⟩
          ·
           rw [if_neg c15] at H
           have c15b0 : decide (((rd_T47 l0_2 x22_2).f0) ≤ x3_2) = false := decide_eq_false c15; clear c15
           by_cases c21 : (wrap64 (x4_2 + ((rd_T47 l0_2 x22_2).f4))) > 1099511627776
           ·
            rw [if_pos c21] at H
            have c21b0 : decide (1099511627776 < (wrap64 (x4_2 + ((rd_T47 l0_2 x22_2).f4)))) = true := decide_eq_true c21; clear c21; obtain rfl := Option.some.inj H; have p116 : 0 ≤ (x22_2 : Int) := zD; have q116 : x22_2 < (l0_2.length : Int) := zD; obtain ⟨ad116, e116, hx116_0, hx116_1, hx116_2, hx116_3, hx116_4⟩ := at_T47 HR0_2.out x22_2 p116 q116
            cases e116
            replace hx116_0 := zL HB hx116_0; replace hx116_1 := zL HB hx116_1; replace hx116_2 := zL HB hx116_2; replace hx116_3 := zL HB hx116_3; replace hx116_4 := zL HB hx116_4; replace p116 := eq_true p116; replace q116 := eq_true q116
            go_wp2_with (first | ((with_reducible refine gate_dst (N := 6) rfl ?_); (try (refine gate_guard (by rfl) ?_; dsimp only)); refine box_event ?hg (N := 6) ?hd (cs := #[.int .i64 0, .int .i64 0, .int .i64 0, .int .i64 0, .int .i64 0]) (t := 47) ?hr ?_; (case hd => rfl); (case hg => rfl); (case hr => first | (go_simp; done) | (go_simp; rfl)); intro gb117 hg w22 hbox hb; have BK117 := Aside0.mk (hbox); have GW117 := zG (w := w) hg; have GE117 := zG (w := w) hg; replace HB := zBs hb; have NB114_117 := zN hg (zK BK114); have NB117_114 := zM hg (zK BK114); replace BK114 := zKb BK114 hb; clear hb hbox hg; have hnb23 := NB117_114.out; have hnc23 := NB114_117.out; obtain ⟨hcz24_0, hcz24_1, hcz24_2, hcz24_3, hcz24_4⟩ := zC5 BK117; obtain ⟨hfz24_0, hfz24_1, hfz24_2, hfz24_3, hfz24_4⟩ := zZ5 BK117) | ((with_reducible refine gate_callee (f := 43) rfl ?_); refine goesL_ (some 31) rfl rfl Tryz.func43 (by kernel_rfl) rfl #[.agg #[.int .i64 ((rd_T47 l0_2 x22_2).f0), .int .i64 ((rd_T47 l0_2 x22_2).f1), .int .i64 ((rd_T47 l0_2 x22_2).f2), .int .i64 ((rd_T47 l0_2 x22_2).f3), .int .i64 ((rd_T47 l0_2 x22_2).f4)]] rfl (by (try simp only [List.map_toArray, List.map_cons, List.map_nil]); try rfl) ?_; (with_reducible refine (bank_right.calls ((rd_T47 l0_2 x22_2).f0) ((rd_T47 l0_2 x22_2).f1) ((rd_T47 l0_2 x22_2).f2) ((rd_T47 l0_2 x22_2).f3) ((rd_T47 l0_2 x22_2).f4) true _ A13.out).mono ?_); rintro e w25 ⟨rfl, hb⟩; refine ⟨_, rfl, ?_⟩; replace BK114 := Aside0.mk (blk_below (zF BK114) hb); replace BK117 := Aside0.mk (blk_below (g := gb117) (o := .cells #[.int .i64 ((rd_T47 l0_2 x22_2).f0), .int .i64 ((rd_T47 l0_2 x22_2).f1), .int .i64 ((rd_T47 l0_2 x22_2).f2), .int .i64 ((rd_T47 l0_2 x22_2).f3), .int .i64 ((rd_T47 l0_2 x22_2).f4)] 47 (0, 0)) (by (with_reducible repeat (first | apply blk_drewN | apply blk_drew | apply blk_alloc)); refine blk_put (cs := #[.int .i64 ((rd_T47 l0_2 x22_2).f0), .int .i64 ((rd_T47 l0_2 x22_2).f1), .int .i64 ((rd_T47 l0_2 x22_2).f2), .int .i64 ((rd_T47 l0_2 x22_2).f3), .int .i64 0]) ?_ 4 _ rfl; (with_reducible repeat (first | apply blk_drewN | apply blk_drew | apply blk_alloc)); refine blk_put (cs := #[.int .i64 ((rd_T47 l0_2 x22_2).f0), .int .i64 ((rd_T47 l0_2 x22_2).f1), .int .i64 ((rd_T47 l0_2 x22_2).f2), .int .i64 0, .int .i64 0]) ?_ 3 _ rfl; (with_reducible repeat (first | apply blk_drewN | apply blk_drew | apply blk_alloc)); refine blk_put (cs := #[.int .i64 ((rd_T47 l0_2 x22_2).f0), .int .i64 ((rd_T47 l0_2 x22_2).f1), .int .i64 0, .int .i64 0, .int .i64 0]) ?_ 2 _ rfl; (with_reducible repeat (first | apply blk_drewN | apply blk_drew | apply blk_alloc)); refine blk_put (cs := #[.int .i64 ((rd_T47 l0_2 x22_2).f0), .int .i64 0, .int .i64 0, .int .i64 0, .int .i64 0]) ?_ 1 _ rfl; (with_reducible repeat (first | apply blk_drewN | apply blk_drew | apply blk_alloc)); refine blk_put (cs := #[.int .i64 0, .int .i64 0, .int .i64 0, .int .i64 0, .int .i64 0]) ?_ 0 _ rfl; (with_reducible repeat (first | apply blk_drewN | apply blk_drew | apply blk_alloc)); exact BK117.out) hb); replace HB := zBs hb; (try clear hb); (try clear hb2); (try clear hk); (try clear hi); obtain ⟨hcz26_0, hcz26_1, hcz26_2, hcz26_3, hcz26_4⟩ := zC5 BK117; obtain ⟨hfz26_0, hfz26_1, hfz26_2, hfz26_3, hfz26_4⟩ := zZ5 BK117))
            go_ret
            exact ⟨zE, zB⟩
           ·
            rw [if_neg c21] at H
            have c21b0 : decide (1099511627776 < (wrap64 (x4_2 + ((rd_T47 l0_2 x22_2).f4)))) = false := decide_eq_false c21; clear c21; have H' := Aside0.mk H; clear H; have p116 : 0 ≤ (x22_2 : Int) := zD; have q116 : x22_2 < (l0_2.length : Int) := zD; obtain ⟨ad116, e116, hx116_0, hx116_1, hx116_2, hx116_3, hx116_4⟩ := at_T47 HR0_2.out x22_2 p116 q116
            cases e116
            replace hx116_0 := zL HB hx116_0; replace hx116_1 := zL HB hx116_1; replace hx116_2 := zL HB hx116_2; replace hx116_3 := zL HB hx116_3; replace hx116_4 := zL HB hx116_4; replace p116 := eq_true p116; replace q116 := eq_true q116
            go_wp2_with (first | ((with_reducible refine gate_dst (N := 6) rfl ?_); (try (refine gate_guard (by rfl) ?_; dsimp only)); refine box_event ?hg (N := 6) ?hd (cs := #[.int .i64 0, .int .i64 0, .int .i64 0, .int .i64 0, .int .i64 0]) (t := 47) ?hr ?_; (case hd => rfl); (case hg => rfl); (case hr => first | (go_simp; done) | (go_simp; rfl)); intro gb117 hg w27 hbox hb; have BK117 := Aside0.mk (hbox); have GW117 := zG (w := w) hg; have GE117 := zG (w := w) hg; replace HB := zBs hb; have NB114_117 := zN hg (zK BK114); have NB117_114 := zM hg (zK BK114); replace BK114 := zKb BK114 hb; clear hb hbox hg; have hnb28 := NB117_114.out; have hnc28 := NB114_117.out; obtain ⟨hcz29_0, hcz29_1, hcz29_2, hcz29_3, hcz29_4⟩ := zC5 BK117; obtain ⟨hfz29_0, hfz29_1, hfz29_2, hfz29_3, hfz29_4⟩ := zZ5 BK117) | ((with_reducible refine gate_callee (f := 43) rfl ?_); refine goesL_ (some 31) rfl rfl Tryz.func43 (by kernel_rfl) rfl #[.agg #[.int .i64 ((rd_T47 l0_2 x22_2).f0), .int .i64 ((rd_T47 l0_2 x22_2).f1), .int .i64 ((rd_T47 l0_2 x22_2).f2), .int .i64 ((rd_T47 l0_2 x22_2).f3), .int .i64 ((rd_T47 l0_2 x22_2).f4)]] rfl (by (try simp only [List.map_toArray, List.map_cons, List.map_nil]); try rfl) ?_; (with_reducible refine (bank_right.calls ((rd_T47 l0_2 x22_2).f0) ((rd_T47 l0_2 x22_2).f1) ((rd_T47 l0_2 x22_2).f2) ((rd_T47 l0_2 x22_2).f3) ((rd_T47 l0_2 x22_2).f4) true _ A13.out).mono ?_); rintro e w30 ⟨rfl, hb⟩; refine ⟨_, rfl, ?_⟩; replace BK114 := Aside0.mk (blk_below (zF BK114) hb); replace BK117 := Aside0.mk (blk_below (g := gb117) (o := .cells #[.int .i64 ((rd_T47 l0_2 x22_2).f0), .int .i64 ((rd_T47 l0_2 x22_2).f1), .int .i64 ((rd_T47 l0_2 x22_2).f2), .int .i64 ((rd_T47 l0_2 x22_2).f3), .int .i64 ((rd_T47 l0_2 x22_2).f4)] 47 (0, 0)) (by (with_reducible repeat (first | apply blk_drewN | apply blk_drew | apply blk_alloc)); refine blk_put (cs := #[.int .i64 ((rd_T47 l0_2 x22_2).f0), .int .i64 ((rd_T47 l0_2 x22_2).f1), .int .i64 ((rd_T47 l0_2 x22_2).f2), .int .i64 ((rd_T47 l0_2 x22_2).f3), .int .i64 0]) ?_ 4 _ rfl; (with_reducible repeat (first | apply blk_drewN | apply blk_drew | apply blk_alloc)); refine blk_put (cs := #[.int .i64 ((rd_T47 l0_2 x22_2).f0), .int .i64 ((rd_T47 l0_2 x22_2).f1), .int .i64 ((rd_T47 l0_2 x22_2).f2), .int .i64 0, .int .i64 0]) ?_ 3 _ rfl; (with_reducible repeat (first | apply blk_drewN | apply blk_drew | apply blk_alloc)); refine blk_put (cs := #[.int .i64 ((rd_T47 l0_2 x22_2).f0), .int .i64 ((rd_T47 l0_2 x22_2).f1), .int .i64 0, .int .i64 0, .int .i64 0]) ?_ 2 _ rfl; (with_reducible repeat (first | apply blk_drewN | apply blk_drew | apply blk_alloc)); refine blk_put (cs := #[.int .i64 ((rd_T47 l0_2 x22_2).f0), .int .i64 0, .int .i64 0, .int .i64 0, .int .i64 0]) ?_ 1 _ rfl; (with_reducible repeat (first | apply blk_drewN | apply blk_drew | apply blk_alloc)); refine blk_put (cs := #[.int .i64 0, .int .i64 0, .int .i64 0, .int .i64 0, .int .i64 0]) ?_ 0 _ rfl; (with_reducible repeat (first | apply blk_drewN | apply blk_drew | apply blk_alloc)); exact BK117.out) hb); replace HB := zBs hb; (try clear hb); (try clear hb2); (try clear hk); (try clear hi); obtain ⟨hcz31_0, hcz31_1, hcz31_2, hcz31_3, hcz31_4⟩ := zC5 BK117; obtain ⟨hfz31_0, hfz31_1, hfz31_2, hfz31_3, hfz31_4⟩ := zZ5 BK117))
            go_roundg k2
            case measure => have := HJ1.out; have := HK2.out; omega
            case rel => exact ⟨((rd_T47 l0_2 x22_2).f0), (wrap64 (x4_2 + ((rd_T47 l0_2 x22_2).f4))), (wrap64 (x22_2 + 1)), (by first | rfl | (simp; done) | (simp [*]; done)), (by first | rfl | (simp; done) | (simp [*]; done)), (by first | rfl | (simp; done) | (simp [*]; done)), H', ⟨by have := HJ1.out; have := HK2.out; omega⟩, ⟨zK BK114⟩, ⟨zB⟩⟩
         ·
          replace c14 := Bool.eq_false_iff.mpr c14; subst c14
          have H1 : (some false) = some r := by rw [if_neg (show ¬ (false = true) by decide)] at H; exact H
          clear H; have H := H1; clear H1; obtain rfl := Option.some.inj H; have p116 : 0 ≤ (x22_2 : Int) := zD; have q116 : x22_2 < (l0_2.length : Int) := zD; obtain ⟨ad116, e116, hx116_0, hx116_1, hx116_2, hx116_3, hx116_4⟩ := at_T47 HR0_2.out x22_2 p116 q116
          cases e116
          replace hx116_0 := zL HB hx116_0; replace hx116_1 := zL HB hx116_1; replace hx116_2 := zL HB hx116_2; replace hx116_3 := zL HB hx116_3; replace hx116_4 := zL HB hx116_4; replace p116 := eq_true p116; replace q116 := eq_true q116
          go_wp2_with (first | ((with_reducible refine gate_dst (N := 6) rfl ?_); (try (refine gate_guard (by rfl) ?_; dsimp only)); refine box_event ?hg (N := 6) ?hd (cs := #[.int .i64 0, .int .i64 0, .int .i64 0, .int .i64 0, .int .i64 0]) (t := 47) ?hr ?_; (case hd => rfl); (case hg => rfl); (case hr => first | (go_simp; done) | (go_simp; rfl)); intro gb117 hg w32 hbox hb; have BK117 := Aside0.mk (hbox); have GW117 := zG (w := w) hg; have GE117 := zG (w := w) hg; replace HB := zBs hb; have NB114_117 := zN hg (zK BK114); have NB117_114 := zM hg (zK BK114); replace BK114 := zKb BK114 hb; clear hb hbox hg; have hnb33 := NB117_114.out; have hnc33 := NB114_117.out; obtain ⟨hcz34_0, hcz34_1, hcz34_2, hcz34_3, hcz34_4⟩ := zC5 BK117; obtain ⟨hfz34_0, hfz34_1, hfz34_2, hfz34_3, hfz34_4⟩ := zZ5 BK117) | ((with_reducible refine gate_callee (f := 43) rfl ?_); refine goesL_ (some 31) rfl rfl Tryz.func43 (by kernel_rfl) rfl #[.agg #[.int .i64 ((rd_T47 l0_2 x22_2).f0), .int .i64 ((rd_T47 l0_2 x22_2).f1), .int .i64 ((rd_T47 l0_2 x22_2).f2), .int .i64 ((rd_T47 l0_2 x22_2).f3), .int .i64 ((rd_T47 l0_2 x22_2).f4)]] rfl (by (try simp only [List.map_toArray, List.map_cons, List.map_nil]); try rfl) ?_; (with_reducible refine (bank_right.calls ((rd_T47 l0_2 x22_2).f0) ((rd_T47 l0_2 x22_2).f1) ((rd_T47 l0_2 x22_2).f2) ((rd_T47 l0_2 x22_2).f3) ((rd_T47 l0_2 x22_2).f4) false _ A13.out).mono ?_); rintro e w35 ⟨rfl, hb⟩; refine ⟨_, rfl, ?_⟩; replace BK114 := Aside0.mk (blk_below (zF BK114) hb); replace BK117 := Aside0.mk (blk_below (g := gb117) (o := .cells #[.int .i64 ((rd_T47 l0_2 x22_2).f0), .int .i64 ((rd_T47 l0_2 x22_2).f1), .int .i64 ((rd_T47 l0_2 x22_2).f2), .int .i64 ((rd_T47 l0_2 x22_2).f3), .int .i64 ((rd_T47 l0_2 x22_2).f4)] 47 (0, 0)) (by (with_reducible repeat (first | apply blk_drewN | apply blk_drew | apply blk_alloc)); refine blk_put (cs := #[.int .i64 ((rd_T47 l0_2 x22_2).f0), .int .i64 ((rd_T47 l0_2 x22_2).f1), .int .i64 ((rd_T47 l0_2 x22_2).f2), .int .i64 ((rd_T47 l0_2 x22_2).f3), .int .i64 0]) ?_ 4 _ rfl; (with_reducible repeat (first | apply blk_drewN | apply blk_drew | apply blk_alloc)); refine blk_put (cs := #[.int .i64 ((rd_T47 l0_2 x22_2).f0), .int .i64 ((rd_T47 l0_2 x22_2).f1), .int .i64 ((rd_T47 l0_2 x22_2).f2), .int .i64 0, .int .i64 0]) ?_ 3 _ rfl; (with_reducible repeat (first | apply blk_drewN | apply blk_drew | apply blk_alloc)); refine blk_put (cs := #[.int .i64 ((rd_T47 l0_2 x22_2).f0), .int .i64 ((rd_T47 l0_2 x22_2).f1), .int .i64 0, .int .i64 0, .int .i64 0]) ?_ 2 _ rfl; (with_reducible repeat (first | apply blk_drewN | apply blk_drew | apply blk_alloc)); refine blk_put (cs := #[.int .i64 ((rd_T47 l0_2 x22_2).f0), .int .i64 0, .int .i64 0, .int .i64 0, .int .i64 0]) ?_ 1 _ rfl; (with_reducible repeat (first | apply blk_drewN | apply blk_drew | apply blk_alloc)); refine blk_put (cs := #[.int .i64 0, .int .i64 0, .int .i64 0, .int .i64 0, .int .i64 0]) ?_ 0 _ rfl; (with_reducible repeat (first | apply blk_drewN | apply blk_drew | apply blk_alloc)); exact BK117.out) hb); replace HB := zBs hb; (try clear hb); (try clear hb2); (try clear hk); (try clear hi)))
          go_ret
          exact ⟨zE, zB⟩
        ·
         rw [if_neg c12] at H
         exact absurd H (by simp)
       ·
        rw [if_neg c11] at H
        exact absurd H (by simp)
      ·
       rw [if_neg c10] at H
       have c10b0 : decide (x22_2 < (l0_2.length : Int)) = false := decide_eq_false c10; clear c10; obtain rfl := Option.some.inj H
       go_wp2
       go_ret
       exact ⟨zE, zB⟩
end Go.Proofs.YtndojpcjhkncgaaGreatDoor.Q
end

section
namespace Go.Proofs.YtndojpcjhkncgaaGreatDoor.Q
open Go.RowKit Go.Proofs.YtndojpcjhkncgaaGreatDoorW.PrintWords Go.Proofs.YtndojpcjhkncgaaGreatDoorW.PrintLast Go.Proofs.YtndojpcjhkncgaaGreatDoorW.PrintMore
attribute [local go_sem] max2_int min2_int max_two min_two max_three min_three max_four min_four   -- for this text's walks alone
set_option linter.unusedVariables false
set_option linter.unusedSimpArgs false
def bank_Right.l0 : Nat → Int → List (S49) → Int → Int → Int → Int → List (S49) → Option (Bool)
 | 0, _, _, _, _, _, _, _ => none
 | k + 1, x3, x7, x8, x9, x131000, x131001, x131002 => if x9 < x8 then (if 0 ≤ x9 then (if x9 < (x7.length : Int) then (if ((rd_T49 x7 x9).f0) ≤ x3 then (some false) else ((bank_counts.f ((rd_T49 x7 x9).f0)).bind fun t133 => (if t133 = true then (if ((rd_T49 x7 x9).f1) < 1 then (some false) else (if ((rd_T49 x7 x9).f1) > 9 then (some false) else (bank_Right.l0 k ((rd_T49 x7 x9).f0) x7 x8 (wrap64 (x9 + 1)) x131000 x131001 x131002))) else (some false)))) else (none)) else (none)) else ((bank_dated.f x131000 x131001).bind fun t134 => (if t134 = true then (some (decide ((x131002.length : Int) ≤ 1000))) else (some false)))
def bank_Right.f (k : Nat) (a0_0 : Int) (a0_1 : Int) (l0_2 : List (S49)) : Option (Bool) := bank_Right.l0 k 0 l0_2 (l0_2.length : Int) 0 a0_0 a0_1 l0_2
set_option maxHeartbeats 8000000 in
set_option maxRecDepth 100000 in
theorem bank_Right.calls (k : Nat) (a0_0 : Int) (a0_1 : Int) (A0_2 : Option Addr) (c0_2 : Nat) (l0_2 : List (S49)) (r : Bool) (w : World) (hr0_2 : Kd.C k49 w A0_2 l0_2.length l0_2) (hc0_2 : l0_2.length ≤ c0_2) (h : bank_Right.f k a0_0 a0_1 l0_2 = some r) :
  Calls Tryz.prog 28 #[.agg #[.int .i64 a0_0, .int .i64 a0_1, .slice A0_2 l0_2.length c0_2]] w fun e w' => e = .returned (.bool r) ∧ Below w.heap.size w w' := by
 have hu30 := Tryz.underlying30; have hu49 := Tryz.underlying49; have HR0_2 := Aside0.mk hr0_2; have HC0_2 := Aside0.mk hc0_2; clear hr0_2 hc0_2; have HB := Aside0.mk (Below.refl w.heap.size w); have H : (bank_Right.l0 k 0 l0_2 (l0_2.length : Int) 0 a0_0 a0_1 l0_2) = some r := h; clear h; have H' := Aside0.mk H; clear H
 go_enter Tryz.func28, Tryz.ntmps28
 go_wp2_with (first | ((with_reducible refine gate_dst (N := 1) rfl ?_); (try (refine gate_guard (by rfl) ?_; dsimp only)); refine box_event ?hg (N := 1) ?hd (cs := #[.int .i64 a0_0, .int .i64 a0_1, .slice A0_2 l0_2.length c0_2]) (t := 30) ?hr ?_; (case hd => rfl); (case hg => rfl); (case hr => first | (go_simp; done) | (go_simp; rfl)); intro gb130 hg w2 hbox hb; have BK130 := Aside0.mk (hbox); have GW130 := zG (w := w) hg; have GE130 := zG (w := w) hg; replace HB := zBs hb; clear hb hbox hg; obtain ⟨hcz3_0, hcz3_1, hcz3_2⟩ := zC3 BK130; obtain ⟨hfz3_0, hfz3_1, hfz3_2⟩ := zZ3 BK130))
 go_loopg [3, 9] k (fun kq v3 v9 w' => ∃ (x3_1 : Int) (x9_1 : Int), v3 = .int .i64 x3_1 ∧ v9 = .int .i64 x9_1 ∧ Aside0 (bank_Right.l0 kq x3_1 l0_2 (l0_2.length : Int) x9_1 a0_0 a0_1 l0_2 = some r) ∧ Aside0 (kq ≤ k) ∧ Aside0 (w'.heap[gb130]? = some (.cells #[.int .i64 a0_0, .int .i64 a0_1, (.slice A0_2 l0_2.length c0_2)] 30 (0, 0))) ∧ Aside0 (Below w.heap.size w w'))
 case atStart => exact ⟨(0), (0), (by first | rfl | (simp; done) | (simp [*]; done)), (by first | rfl | (simp; done) | (simp [*]; done)), H', ⟨Nat.le_refl _⟩, ⟨zK BK130⟩, ⟨zB⟩⟩
 case round =>
  clear H'
  try clear c2
  try clear p2
  try clear hcz3_0
  try clear hcz3_1
  try clear hcz3_2
  try clear hfz3_0
  try clear hfz3_1
  try clear hfz3_2
  obtain ⟨x3_1, x9_1, rfl, rfl, HA, HK1, BK130, HB⟩ := hrel
  cases gk with
  | zero => exact absurd HA.out (by simp [bank_Right.l0])
  | succ k1 =>
   have H := HA.out; clear HA
   simp only [bank_Right.l0] at H
   by_cases c4 : x9_1 < (l0_2.length : Int)
   ·
    rw [if_pos c4] at H
    have c4b0 : decide (x9_1 < (l0_2.length : Int)) = true := decide_eq_true c4; clear c4
    by_cases c5 : 0 ≤ x9_1
    ·
     rw [if_pos c5] at H
     have c5b0 : decide (0 ≤ x9_1) = true := decide_eq_true c5; clear c5
     by_cases c6 : x9_1 < (l0_2.length : Int)
     ·
      rw [if_pos c6] at H
      have c6b0 : decide (x9_1 < (l0_2.length : Int)) = true := decide_eq_true c6; clear c6
      by_cases c7 : ((rd_T49 l0_2 x9_1).f0) ≤ x3_1
      ·
       rw [if_pos c7] at H
       have c7b0 : decide (((rd_T49 l0_2 x9_1).f0) ≤ x3_1) = true := decide_eq_true c7; clear c7; obtain rfl := Option.some.inj H; have p131 : 0 ≤ (x9_1 : Int) := zD; have q131 : x9_1 < (l0_2.length : Int) := zD; obtain ⟨ad131, e131, hx131_0, hx131_1⟩ := at_T49 HR0_2.out x9_1 p131 q131
       cases e131
       replace hx131_0 := zL HB hx131_0; replace hx131_1 := zL HB hx131_1; replace p131 := eq_true p131; replace q131 := eq_true q131
       go_wp2_with (first | ((with_reducible refine gate_dst (N := 5) rfl ?_); (try (refine gate_guard (by rfl) ?_; dsimp only)); refine box_event ?hg (N := 5) ?hd (cs := #[.int .i64 0, .int .i64 0]) (t := 49) ?hr ?_; (case hd => rfl); (case hg => rfl); (case hr => first | (go_simp; done) | (go_simp; rfl)); intro gb132 hg w8 hbox hb; have BK132 := Aside0.mk (hbox); have GW132 := zG (w := w) hg; have GE132 := zG (w := w) hg; replace HB := zBs hb; have NB130_132 := zN hg (zK BK130); have NB132_130 := zM hg (zK BK130); replace BK130 := zKb BK130 hb; clear hb hbox hg; have hnb9 := NB132_130.out; have hnc9 := NB130_132.out; obtain ⟨hcz10_0, hcz10_1⟩ := zC2 BK132; obtain ⟨hfz10_0, hfz10_1⟩ := zZ2 BK132))
       go_ret
       exact ⟨zE, zB⟩
      ·
       rw [if_neg c7] at H
       have c7b0 : decide (((rd_T49 l0_2 x9_1).f0) ≤ x3_1) = false := decide_eq_false c7; clear c7; replace H := Option.bind_eq_some_iff.mp H; obtain ⟨t133, A110, H⟩ := H; replace H : (if t133 = true then (if ((rd_T49 l0_2 x9_1).f1) < 1 then (some false) else (if ((rd_T49 l0_2 x9_1).f1) > 9 then (some false) else (bank_Right.l0 k1 ((rd_T49 l0_2 x9_1).f0) l0_2 (l0_2.length : Int) (wrap64 (x9_1 + 1)) a0_0 a0_1 l0_2))) else (some false)) = some r := H; have A11 := Aside0.mk A110; clear A110
       by_cases c12 : t133 = true
       ·
        subst c12
        have H1 : (if ((rd_T49 l0_2 x9_1).f1) < 1 then (some false) else (if ((rd_T49 l0_2 x9_1).f1) > 9 then (some false) else (bank_Right.l0 k1 ((rd_T49 l0_2 x9_1).f0) l0_2 (l0_2.length : Int) (wrap64 (x9_1 + 1)) a0_0 a0_1 l0_2))) = some r := by rw [if_pos rfl] at H; exact H
        clear H; have H := H1; clear H1
        by_cases c13 : ((rd_T49 l0_2 x9_1).f1) < 1
        ·
         rw [if_pos c13] at H
         have c13b0 : decide (((rd_T49 l0_2 x9_1).f1) < 1) = true := decide_eq_true c13; clear c13; obtain rfl := Option.some.inj H; have p131 : 0 ≤ (x9_1 : Int) := zD; have q131 : x9_1 < (l0_2.length : Int) := zD; obtain ⟨ad131, e131, hx131_0, hx131_1⟩ := at_T49 HR0_2.out x9_1 p131 q131
         cases e131
         replace hx131_0 := zL HB hx131_0; replace hx131_1 := zL HB hx131_1; replace p131 := eq_true p131; replace q131 := eq_true q131
         go_wp2_with (first | ((with_reducible refine gate_dst (N := 5) rfl ?_); (try (refine gate_guard (by rfl) ?_; dsimp only)); refine box_event ?hg (N := 5) ?hd (cs := #[.int .i64 0, .int .i64 0]) (t := 49) ?hr ?_; (case hd => rfl); (case hg => rfl); (case hr => first | (go_simp; done) | (go_simp; rfl)); intro gb132 hg w14 hbox hb; have BK132 := Aside0.mk (hbox); have GW132 := zG (w := w) hg; have GE132 := zG (w := w) hg; replace HB := zBs hb; have NB130_132 := zN hg (zK BK130); have NB132_130 := zM hg (zK BK130); replace BK130 := zKb BK130 hb; clear hb hbox hg; have hnb15 := NB132_130.out; have hnc15 := NB130_132.out; obtain ⟨hcz16_0, hcz16_1⟩ := zC2 BK132; obtain ⟨hfz16_0, hfz16_1⟩ := zZ2 BK132) | (go_at_call 53; (with_reducible refine (bank_counts.calls ((rd_T49 l0_2 x9_1).f0) true _ A11.out).mono ?_); rintro e w' ⟨rfl, ⟨nd, rfl⟩⟩))
         go_ret
         exact ⟨zE, zB⟩
        ·
         rw [if_neg c13] at H
         have c13b0 : decide (((rd_T49 l0_2 x9_1).f1) < 1) = false := decide_eq_false c13; clear c13
         by_cases c17 : ((rd_T49 l0_2 x9_1).f1) > 9
         ·
          rw [if_pos c17] at H
          have c17b0 : decide (9 < ((rd_T49 l0_2 x9_1).f1)) = true := decide_eq_true c17; clear c17; obtain rfl := Option.some.inj H; have p131 : 0 ≤ (x9_1 : Int) := zD; have q131 : x9_1 < (l0_2.length : Int) := zD; obtain ⟨ad131, e131, hx131_0, hx131_1⟩ := at_T49 HR0_2.out x9_1 p131 q131
          cases e131
          replace hx131_0 := zL HB hx131_0; replace hx131_1 := zL HB hx131_1; replace p131 := eq_true p131; replace q131 := eq_true q131
          go_wp2_with (first | ((with_reducible refine gate_dst (N := 5) rfl ?_); (try (refine gate_guard (by rfl) ?_; dsimp only)); refine box_event ?hg (N := 5) ?hd (cs := #[.int .i64 0, .int .i64 0]) (t := 49) ?hr ?_; (case hd => rfl); (case hg => rfl); (case hr => first | (go_simp; done) | (go_simp; rfl)); intro gb132 hg w18 hbox hb; have BK132 := Aside0.mk (hbox); have GW132 := zG (w := w) hg; have GE132 := zG (w := w) hg; replace HB := zBs hb; have NB130_132 := zN hg (zK BK130); have NB132_130 := zM hg (zK BK130); replace BK130 := zKb BK130 hb; clear hb hbox hg; have hnb19 := NB132_130.out; have hnc19 := NB130_132.out; obtain ⟨hcz20_0, hcz20_1⟩ := zC2 BK132; obtain ⟨hfz20_0, hfz20_1⟩ := zZ2 BK132) | (go_at_call 53; (with_reducible refine (bank_counts.calls ((rd_T49 l0_2 x9_1).f0) true _ A11.out).mono ?_); rintro e w' ⟨rfl, ⟨nd, rfl⟩⟩))
          go_ret
          exact ⟨zE, zB⟩
         ·
          rw [if_neg c17] at H
          have c17b0 : decide (9 < ((rd_T49 l0_2 x9_1).f1)) = false := decide_eq_false c17; clear c17; have H' := Aside0.mk H; clear H; have p131 : 0 ≤ (x9_1 : Int) := zD; have q131 : x9_1 < (l0_2.length : Int) := zD; obtain ⟨ad131, e131, hx131_0, hx131_1⟩ := at_T49 HR0_2.out x9_1 p131 q131
          cases e131
          replace hx131_0 := zL HB hx131_0; replace hx131_1 := zL HB hx131_1; replace p131 := eq_true p131; replace q131 := eq_true q131
          go_wp2_with (first | ((with_reducible refine gate_dst (N := 5) rfl ?_); (try (refine gate_guard (by rfl) ?_; dsimp only)); refine box_event ?hg (N := 5) ?hd (cs := #[.int .i64 0, .int .i64 0]) (t := 49) ?hr ?_; (case hd => rfl); (case hg => rfl); (case hr => first | (go_simp; done) | (go_simp; rfl)); intro gb132 hg w21 hbox hb; have BK132 := Aside0.mk (hbox); have GW132 := zG (w := w) hg; have GE132 := zG (w := w) hg; replace HB := zBs hb; have NB130_132 := zN hg (zK BK130); have NB132_130 := zM hg (zK BK130); replace BK130 := zKb BK130 hb; clear hb hbox hg; have hnb22 := NB132_130.out; have hnc22 := NB130_132.out; obtain ⟨hcz23_0, hcz23_1⟩ := zC2 BK132; obtain ⟨hfz23_0, hfz23_1⟩ := zZ2 BK132) | (go_at_call 53; (with_reducible refine (bank_counts.calls ((rd_T49 l0_2 x9_1).f0) true _ A11.out).mono ?_); rintro e w' ⟨rfl, ⟨nd, rfl⟩⟩))
          go_roundg k1
          case measure => have := HK1.out; omega
          case rel => exact ⟨((rd_T49 l0_2 x9_1).f0), (wrap64 (x9_1 + 1)), (by first | rfl | (simp; done) | (simp [*]; done)), (by first | rfl | (simp; done) | (simp [*]; done)), H', ⟨by have := HK1.out; omega⟩, ⟨zF BK130⟩, ⟨zB⟩⟩
       ·
        replace c12 := Bool.eq_false_iff.mpr c12; subst c12
        have H1 : (some false) = some r := by rw [if_neg (show ¬ (false = true) by decide)] at H; exact H
        clear H; have H := H1; clear H1; obtain rfl := Option.some.inj H; have p131 : 0 ≤ (x9_1 : Int) := zD; have q131 : x9_1 < (l0_2.length : Int) := zD; obtain ⟨ad131, e131, hx131_0, hx131_1⟩ := at_T49 HR0_2.out x9_1 p131 q131
        cases e131
        replace hx131_0 := zL HB hx131_0; replace hx131_1 := zL HB hx131_1; replace p131 := eq_true p131; replace q131 := eq_true q131
        go_wp2_with (first | ((with_reducible refine gate_dst (N := 5) rfl ?_); (try (refine gate_guard (by rfl) ?_; dsimp only)); refine box_event ?hg (N := 5) ?hd (cs := #[.int .i64 0, .int .i64 0]) (t := 49) ?hr ?_; (case hd => rfl); (case hg => rfl); (case hr => first | (go_simp; done) | (go_simp; rfl)); intro gb132 hg w24 hbox hb; have BK132 := Aside0.mk (hbox); have GW132 := zG (w := w) hg; have GE132 := zG (w := w) hg; replace HB := zBs hb; have NB130_132 := zN hg (zK BK130); have NB132_130 := zM hg (zK BK130); replace BK130 := zKb BK130 hb; clear hb hbox hg; have hnb25 := NB132_130.out; have hnc25 := NB130_132.out; obtain ⟨hcz26_0, hcz26_1⟩ := zC2 BK132; obtain ⟨hfz26_0, hfz26_1⟩ := zZ2 BK132) | (go_at_call 53; (with_reducible refine (bank_counts.calls ((rd_T49 l0_2 x9_1).f0) false _ A11.out).mono ?_); rintro e w' ⟨rfl, ⟨nd, rfl⟩⟩))
        go_ret
        exact ⟨zE, zB⟩
     ·
      rw [if_neg c6] at H
      exact absurd H (by simp)
    ·
     rw [if_neg c5] at H
     exact absurd H (by simp)
   ·
    rw [if_neg c4] at H
    have c4b0 : decide (x9_1 < (l0_2.length : Int)) = false := decide_eq_false c4; clear c4; replace H := Option.bind_eq_some_iff.mp H; obtain ⟨t134, A270, H⟩ := H; replace H : (if t134 = true then (some (decide ((l0_2.length : Int) ≤ 1000))) else (some false)) = some r := H; have A27 := Aside0.mk A270; clear A270
    by_cases c28 : t134 = true
    ·
     subst c28
     have H1 : (some (decide ((l0_2.length : Int) ≤ 1000))) = some r := by rw [if_pos rfl] at H; exact H
     clear H; have H := H1; clear H1; obtain rfl := Option.some.inj H; obtain ⟨hcz29_0, hcz29_1, hcz29_2⟩ := zC3 BK130; obtain ⟨hfz29_0, hfz29_1, hfz29_2⟩ := zZ3 BK130
     go_wp2_with (first | ((with_reducible refine gate_callee (f := 42) rfl ?_); refine goesL_ (some 40) rfl rfl Tryz.func42 (by kernel_rfl) rfl #[.int .i64 a0_0, .int .i64 a0_1] rfl (by (try simp only [List.map_toArray, List.map_cons, List.map_nil]); try rfl) ?_; (with_reducible refine (bank_dated.calls a0_0 a0_1 true _ A27.out).mono ?_); rintro e w' ⟨rfl, ⟨nd, rfl⟩⟩; refine ⟨_, rfl, ?_⟩))
     go_ret
     exact ⟨zE, zB⟩
    ·
     replace c28 := Bool.eq_false_iff.mpr c28; subst c28
     have H1 : (some false) = some r := by rw [if_neg (show ¬ (false = true) by decide)] at H; exact H
     clear H; have H := H1; clear H1; obtain rfl := Option.some.inj H; obtain ⟨hcz30_0, hcz30_1, hcz30_2⟩ := zC3 BK130; obtain ⟨hfz30_0, hfz30_1, hfz30_2⟩ := zZ3 BK130
     go_wp2_with (first | ((with_reducible refine gate_callee (f := 42) rfl ?_); refine goesL_ (some 40) rfl rfl Tryz.func42 (by kernel_rfl) rfl #[.int .i64 a0_0, .int .i64 a0_1] rfl (by (try simp only [List.map_toArray, List.map_cons, List.map_nil]); try rfl) ?_; (with_reducible refine (bank_dated.calls a0_0 a0_1 false _ A27.out).mono ?_); rintro e w' ⟨rfl, ⟨nd, rfl⟩⟩; refine ⟨_, rfl, ?_⟩))
     go_ret
     exact ⟨zE, zB⟩
end Go.Proofs.YtndojpcjhkncgaaGreatDoor.Q
end

section
namespace Go.Proofs.YtndojpcjhkncgaaGreatDoor.Q
open Go.RowKit Go.Proofs.YtndojpcjhkncgaaGreatDoorW.PrintWords Go.Proofs.YtndojpcjhkncgaaGreatDoorW.PrintLast Go.Proofs.YtndojpcjhkncgaaGreatDoorW.PrintMore
attribute [local go_sem] max2_int min2_int max_two min_two max_three min_three max_four min_four   -- for this text's walks alone
set_option linter.unusedVariables false
set_option linter.unusedSimpArgs false
mutual
def annuitantref36_Valid.j0 : Nat → Bool → Int → Int → List (S47) → Option (Bool)
 | 0, _, _, _, _ => none
 | k + 1, x29, x224000, x224001, x224002 => if x29 = true then (some false) else (annuitantref36_Valid.l0 k 0 0 x224000 x224001 x224002)
def annuitantref36_Valid.l0 : Nat → Int → Int → Int → Int → List (S47) → Option (Bool)
 | 0, _, _, _, _, _ => none
 | k + 1, x3, x4, x224000, x224001, x224002 => if x4 < (x224002.length : Int) then (if 0 ≤ x4 then (if ((rd_T47 x224002 x4).f0) < 1 then (annuitantref36_Valid.j2 k x3 x4 true x224000 x224001 x224002 ((rd_T47 x224002 x4).f0) ((rd_T47 x224002 x4).f1) ((rd_T47 x224002 x4).f2) ((rd_T47 x224002 x4).f3) ((rd_T47 x224002 x4).f4)) else (if ((rd_T47 x224002 x4).f0) > 1099511627776 then (annuitantref36_Valid.j2 k x3 x4 true x224000 x224001 x224002 ((rd_T47 x224002 x4).f0) ((rd_T47 x224002 x4).f1) ((rd_T47 x224002 x4).f2) ((rd_T47 x224002 x4).f3) ((rd_T47 x224002 x4).f4)) else (if ((rd_T47 x224002 x4).f1) < 1 then (annuitantref36_Valid.j2 k x3 x4 true x224000 x224001 x224002 ((rd_T47 x224002 x4).f0) ((rd_T47 x224002 x4).f1) ((rd_T47 x224002 x4).f2) ((rd_T47 x224002 x4).f3) ((rd_T47 x224002 x4).f4)) else (if ((rd_T47 x224002 x4).f1) > 1099511627776 then (annuitantref36_Valid.j2 k x3 x4 true x224000 x224001 x224002 ((rd_T47 x224002 x4).f0) ((rd_T47 x224002 x4).f1) ((rd_T47 x224002 x4).f2) ((rd_T47 x224002 x4).f3) ((rd_T47 x224002 x4).f4)) else (if ((rd_T47 x224002 x4).f2) < 0 then (annuitantref36_Valid.j2 k x3 x4 true x224000 x224001 x224002 ((rd_T47 x224002 x4).f0) ((rd_T47 x224002 x4).f1) ((rd_T47 x224002 x4).f2) ((rd_T47 x224002 x4).f3) ((rd_T47 x224002 x4).f4)) else (if ((rd_T47 x224002 x4).f2) > 1099511627776 then (annuitantref36_Valid.j2 k x3 x4 true x224000 x224001 x224002 ((rd_T47 x224002 x4).f0) ((rd_T47 x224002 x4).f1) ((rd_T47 x224002 x4).f2) ((rd_T47 x224002 x4).f3) ((rd_T47 x224002 x4).f4)) else (if ((rd_T47 x224002 x4).f3) < (-1099511627776) then (annuitantref36_Valid.j2 k x3 x4 true x224000 x224001 x224002 ((rd_T47 x224002 x4).f0) ((rd_T47 x224002 x4).f1) ((rd_T47 x224002 x4).f2) ((rd_T47 x224002 x4).f3) ((rd_T47 x224002 x4).f4)) else (if ((rd_T47 x224002 x4).f3) > ((rd_T47 x224002 x4).f2) then (annuitantref36_Valid.j2 k x3 x4 true x224000 x224001 x224002 ((rd_T47 x224002 x4).f0) ((rd_T47 x224002 x4).f1) ((rd_T47 x224002 x4).f2) ((rd_T47 x224002 x4).f3) ((rd_T47 x224002 x4).f4)) else (if ((rd_T47 x224002 x4).f4) = (wrap64 (((rd_T47 x224002 x4).f2) - ((rd_T47 x224002 x4).f3))) then (annuitantref36_Valid.j2 k x3 x4 (decide (((rd_T47 x224002 x4).f4) > 1099511627776)) x224000 x224001 x224002 ((rd_T47 x224002 x4).f0) ((rd_T47 x224002 x4).f1) ((rd_T47 x224002 x4).f2) ((rd_T47 x224002 x4).f3) ((rd_T47 x224002 x4).f4)) else (annuitantref36_Valid.j2 k x3 x4 true x224000 x224001 x224002 ((rd_T47 x224002 x4).f0) ((rd_T47 x224002 x4).f1) ((rd_T47 x224002 x4).f2) ((rd_T47 x224002 x4).f3) ((rd_T47 x224002 x4).f4))))))))))) else (none)) else (some true)
def annuitantref36_Valid.j2 : Nat → Int → Int → Bool → Int → Int → List (S47) → Int → Int → Int → Int → Int → Option (Bool)
 | 0, _, _, _, _, _, _, _, _, _, _, _ => none
 | k + 1, x3, x4, x96, x224000, x224001, x224002, x226000, x226001, x226002, x226003, x226004 => if x96 = true then (some false) else (if (wrap64 (x3 + x226004)) > 1099511627776 then (some false) else (if x4 > 0 then (if 0 ≤ (wrap64 (x4 - 1)) then (if (wrap64 (x4 - 1)) < (x224002.length : Int) then (if x226000 ≤ ((rd_T47 x224002 (wrap64 (x4 - 1))).f0) then (some false) else (annuitantref36_Valid.l0 k (wrap64 (x3 + x226004)) (wrap64 (x4 + 1)) x224000 x224001 x224002)) else (none)) else (none)) else (annuitantref36_Valid.l0 k (wrap64 (x3 + x226004)) (wrap64 (x4 + 1)) x224000 x224001 x224002)))
end
def annuitantref36_Valid.f (k : Nat) (a0_0 : Int) (a0_1 : Int) (l0_2 : List (S47)) : Option (Bool) := if a0_0 < 1 then (annuitantref36_Valid.j0 k true a0_0 a0_1 l0_2) else (if a0_0 > 1099511627776 then (annuitantref36_Valid.j0 k true a0_0 a0_1 l0_2) else (if a0_1 < 0 then (annuitantref36_Valid.j0 k true a0_0 a0_1 l0_2) else (if a0_1 ≥ 65536 then (annuitantref36_Valid.j0 k true a0_0 a0_1 l0_2) else (annuitantref36_Valid.j0 k (decide ((l0_2.length : Int) > 1000)) a0_0 a0_1 l0_2))))
set_option maxHeartbeats 8000000 in
set_option maxRecDepth 100000 in
theorem annuitantref36_Valid.calls (k : Nat) (a0_0 : Int) (a0_1 : Int) (A0_2 : Option Addr) (c0_2 : Nat) (l0_2 : List (S47)) (r : Bool) (w : World) (hr0_2 : Kd.C k47 w A0_2 l0_2.length l0_2) (hc0_2 : l0_2.length ≤ c0_2) (h : annuitantref36_Valid.f k a0_0 a0_1 l0_2 = some r) :
  Calls Tryz.prog 35 #[.agg #[.int .i64 a0_0, .int .i64 a0_1, .slice A0_2 l0_2.length c0_2]] w fun e w' => e = .returned (.bool r) ∧ Below w.heap.size w w' := by
 have hu36 := Tryz.underlying36; have hu47 := Tryz.underlying47; have HR0_2 := Aside0.mk hr0_2; have HC0_2 := Aside0.mk hc0_2; clear hr0_2 hc0_2; have HB := Aside0.mk (Below.refl w.heap.size w); have H : (if a0_0 < 1 then (annuitantref36_Valid.j0 k true a0_0 a0_1 l0_2) else (if a0_0 > 1099511627776 then (annuitantref36_Valid.j0 k true a0_0 a0_1 l0_2) else (if a0_1 < 0 then (annuitantref36_Valid.j0 k true a0_0 a0_1 l0_2) else (if a0_1 ≥ 65536 then (annuitantref36_Valid.j0 k true a0_0 a0_1 l0_2) else (annuitantref36_Valid.j0 k (decide ((l0_2.length : Int) > 1000)) a0_0 a0_1 l0_2))))) = some r := h; clear h; have HC2 := Aside0.mk H; clear H
 go_enter Tryz.func35, Tryz.ntmps35
 go_upto_region 1 with (first | ((with_reducible refine gate_dst (N := 1) rfl ?_); (try (refine gate_guard (by rfl) ?_; dsimp only)); refine box_event ?hg (N := 1) ?hd (cs := #[.int .i64 a0_0, .int .i64 a0_1, .slice A0_2 l0_2.length c0_2]) (t := 36) ?hr ?_; (case hd => rfl); (case hg => rfl); (case hr => first | (go_simp; done) | (go_simp; rfl)); intro gb223 hg w3 hbox hb; have BK223 := Aside0.mk (hbox); have GW223 := zG (w := w) hg; have GE223 := zG (w := w) hg; replace HB := zBs hb; clear hb hbox hg))
 repeat (go_quiet (skip); try go_wp2)
 (try simp only [Act.put, List.setIfInBounds_toArray, List.set_cons_zero, List.set_cons_succ])
 go_cut [29] (fun v29 wc => ∃ (kq : Nat) (x29_1 : Bool), v29 = .bool x29_1 ∧ Aside0 (annuitantref36_Valid.j0 kq x29_1 a0_0 a0_1 l0_2 = some r) ∧ Aside0 (kq ≤ k) ∧ Aside0 (wc.heap[gb223]? = some (.cells #[.int .i64 a0_0, .int .i64 a0_1, (.slice A0_2 l0_2.length c0_2)] 36 (0, 0))) ∧ Aside0 (Below w.heap.size w wc))
 case first =>
  have H := HC2.out; clear HC2
  by_cases c4 : a0_0 < 1
  ·
   rw [if_pos c4] at H
   have c4b0 : decide (a0_0 < 1) = true := decide_eq_true c4; clear c4
   (first | rw [c4b0] | (simp only [i64_w, i32_w]; rw [c4b0]) | skip)
   have H' := Aside0.mk H; clear H; obtain ⟨hcz5_0, hcz5_1, hcz5_2⟩ := zC3 BK223; obtain ⟨hfz5_0, hfz5_1, hfz5_2⟩ := zZ3 BK223
   go_wp2
   repeat (go_quiet (skip); try go_wp2)
   go_meet
   case rel => exact ⟨_, (true), (by first | rfl | (simp; done) | (simp [*]; done)), H', ⟨by first | omega | exact Nat.le_refl _⟩, ⟨zK BK223⟩, ⟨zB⟩⟩
  ·
   rw [if_neg c4] at H
   have c4b0 : decide (a0_0 < 1) = false := decide_eq_false c4; clear c4
   (first | rw [c4b0] | (simp only [i64_w, i32_w]; rw [c4b0]) | skip)
   by_cases c6 : a0_0 > 1099511627776
   ·
    rw [if_pos c6] at H
    have c6b0 : decide (1099511627776 < a0_0) = true := decide_eq_true c6; clear c6; have H' := Aside0.mk H; clear H; obtain ⟨hcz7_0, hcz7_1, hcz7_2⟩ := zC3 BK223; obtain ⟨hfz7_0, hfz7_1, hfz7_2⟩ := zZ3 BK223
    go_wp2
    repeat (go_quiet (skip); try go_wp2)
    go_meet
    case rel => exact ⟨_, (true), (by first | rfl | (simp; done) | (simp [*]; done)), H', ⟨by first | omega | exact Nat.le_refl _⟩, ⟨zK BK223⟩, ⟨zB⟩⟩
   ·
    rw [if_neg c6] at H
    have c6b0 : decide (1099511627776 < a0_0) = false := decide_eq_false c6; clear c6
    by_cases c8 : a0_1 < 0
    ·
     rw [if_pos c8] at H
     have c8b0 : decide (a0_1 < 0) = true := decide_eq_true c8; clear c8; have H' := Aside0.mk H; clear H; obtain ⟨hcz9_0, hcz9_1, hcz9_2⟩ := zC3 BK223; obtain ⟨hfz9_0, hfz9_1, hfz9_2⟩ := zZ3 BK223
     go_wp2
     repeat (go_quiet (skip); try go_wp2)
     go_meet
     case rel => exact ⟨_, (true), (by first | rfl | (simp; done) | (simp [*]; done)), H', ⟨by first | omega | exact Nat.le_refl _⟩, ⟨zK BK223⟩, ⟨zB⟩⟩
    ·
     rw [if_neg c8] at H
     have c8b0 : decide (a0_1 < 0) = false := decide_eq_false c8; clear c8
     by_cases c10 : a0_1 ≥ 65536
     ·
      rw [if_pos c10] at H
      have c10b0 : decide (65536 ≤ a0_1) = true := decide_eq_true c10; clear c10; have H' := Aside0.mk H; clear H; obtain ⟨hcz11_0, hcz11_1, hcz11_2⟩ := zC3 BK223; obtain ⟨hfz11_0, hfz11_1, hfz11_2⟩ := zZ3 BK223
      go_wp2
      repeat (go_quiet (skip); try go_wp2)
      go_meet
      case rel => exact ⟨_, (true), (by first | rfl | (simp; done) | (simp [*]; done)), H', ⟨by first | omega | exact Nat.le_refl _⟩, ⟨zK BK223⟩, ⟨zB⟩⟩
     ·
      rw [if_neg c10] at H
      have c10b0 : decide (65536 ≤ a0_1) = false := decide_eq_false c10; clear c10; have H' := Aside0.mk H; clear H; obtain ⟨hcz12_0, hcz12_1, hcz12_2⟩ := zC3 BK223; obtain ⟨hfz12_0, hfz12_1, hfz12_2⟩ := zZ3 BK223
      go_wp2
      repeat (go_quiet (skip); try go_wp2)
      go_meet
      case rel => exact ⟨_, (decide ((l0_2.length : Int) > 1000)), (by first | rfl | (simp; done) | (simp [*]; done)), H', ⟨by first | omega | exact Nat.le_refl _⟩, ⟨zK BK223⟩, ⟨zB⟩⟩
 case rest =>
  clear HC2
  try clear c1
  try clear p2
  try clear c3
  try clear c4
  try clear c4b0
  try clear c6
  try clear c6b0
  try clear c8
  try clear c8b0
  try clear c10
  try clear c10b0
  try clear hcz11_0
  try clear hcz11_1
  try clear hcz11_2
  try clear hcz12_0
  try clear hcz12_1
  try clear hcz12_2
  try clear hcz5_0
  try clear hcz5_1
  try clear hcz5_2
  try clear hcz7_0
  try clear hcz7_1
  try clear hcz7_2
  try clear hcz9_0
  try clear hcz9_1
  try clear hcz9_2
  try clear hfz11_0
  try clear hfz11_1
  try clear hfz11_2
  try clear hfz12_0
  try clear hfz12_1
  try clear hfz12_2
  try clear hfz5_0
  try clear hfz5_1
  try clear hfz5_2
  try clear hfz7_0
  try clear hfz7_1
  try clear hfz7_2
  try clear hfz9_0
  try clear hfz9_1
  try clear hfz9_2
  obtain ⟨kq, x29_1, rfl, HA, HJ1, BK223, HB⟩ := hcut
  cases kq with
  | zero => exact absurd HA.out (by simp [annuitantref36_Valid.j0])
  | succ kj1 =>
   have H := HA.out; clear HA
   simp only [annuitantref36_Valid.j0] at H
   by_cases c13 : x29_1 = true
   ·
    subst c13
    have H1 : (some false) = some r := by rw [if_pos rfl] at H; exact H
    clear H; have H := H1; clear H1; obtain rfl := Option.some.inj H
    go_wp2
    repeat (go_quiet (skip); try go_wp2)
    go_ret
    exact ⟨zE, zB⟩
   ·
    replace c13 := Bool.eq_false_iff.mpr c13; subst c13
    have H1 : (annuitantref36_Valid.l0 kj1 0 0 a0_0 a0_1 l0_2) = some r := by rw [if_neg (show ¬ (false = true) by decide)] at H; exact H
    clear H; have H := H1; clear H1; have H' := Aside0.mk H; clear H
    go_wp2
    repeat (go_quiet (skip); try go_wp2)
    go_loopg [3, 4] kj1 (fun kq v3 v4 w' => ∃ (x3_2 : Int) (x4_2 : Int), v3 = .int .i64 x3_2 ∧ v4 = .int .i64 x4_2 ∧ Aside0 (annuitantref36_Valid.l0 kq x3_2 x4_2 a0_0 a0_1 l0_2 = some r) ∧ Aside0 (kq ≤ kj1) ∧ Aside0 (w'.heap[gb223]? = some (.cells #[.int .i64 a0_0, .int .i64 a0_1, (.slice A0_2 l0_2.length c0_2)] 36 (0, 0))) ∧ Aside0 (Below w.heap.size w w'))
    case atStart => exact ⟨(0), (0), (by first | rfl | (simp; done) | (simp [*]; done)), (by first | rfl | (simp; done) | (simp [*]; done)), H', ⟨Nat.le_refl _⟩, ⟨zK BK223⟩, ⟨zB⟩⟩
    case round =>
     clear H'
     try clear c1
     try clear p2
     try clear c3
     try clear c4
     try clear c4b0
     try clear c6
     try clear c6b0
     try clear c8
     try clear c8b0
     try clear c10
     try clear c10b0
     try clear c13
     try clear hcz11_0
     try clear hcz11_1
     try clear hcz11_2
     try clear hcz12_0
     try clear hcz12_1
     try clear hcz12_2
     try clear hcz5_0
     try clear hcz5_1
     try clear hcz5_2
     try clear hcz7_0
     try clear hcz7_1
     try clear hcz7_2
     try clear hcz9_0
     try clear hcz9_1
     try clear hcz9_2
     try clear hfz11_0
     try clear hfz11_1
     try clear hfz11_2
     try clear hfz12_0
     try clear hfz12_1
     try clear hfz12_2
     try clear hfz5_0
     try clear hfz5_1
     try clear hfz5_2
     try clear hfz7_0
     try clear hfz7_1
     try clear hfz7_2
     try clear hfz9_0
     try clear hfz9_1
     try clear hfz9_2
     try clear p2
     obtain ⟨x3_2, x4_2, rfl, rfl, HA, HK2, BK223, HB⟩ := hrel
     cases gk with
     | zero => exact absurd HA.out (by simp [annuitantref36_Valid.l0])
     | succ k2 =>
      have H := HA.out; clear HA
      simp only [annuitantref36_Valid.l0] at H
      by_cases c14 : x4_2 < (l0_2.length : Int)
      ·
       rw [if_pos c14] at H
       have c14b0 : decide (x4_2 < (l0_2.length : Int)) = true := decide_eq_true c14; clear c14
       by_cases c15 : 0 ≤ x4_2
       ·
        rw [if_pos c15] at H
        have c15b0 : decide (0 ≤ x4_2) = true := decide_eq_true c15; clear c15; have HC16 := Aside0.mk H; clear H; obtain ⟨hcz17_0, hcz17_1, hcz17_2⟩ := zC3 BK223; obtain ⟨hfz17_0, hfz17_1, hfz17_2⟩ := zZ3 BK223; have p224 : 0 ≤ (x4_2 : Int) := zD; have q224 : x4_2 < (l0_2.length : Int) := zD; obtain ⟨ad224, e224, hx224_0, hx224_1, hx224_2, hx224_3, hx224_4⟩ := at_T47 HR0_2.out x4_2 p224 q224
        cases e224
        replace hx224_0 := zL HB hx224_0; replace hx224_1 := zL HB hx224_1; replace hx224_2 := zL HB hx224_2; replace hx224_3 := zL HB hx224_3; replace hx224_4 := zL HB hx224_4; replace p224 := eq_true p224; replace q224 := eq_true q224
        go_upto_region 8 with (first | ((with_reducible refine gate_dst (N := 5) rfl ?_); (try (refine gate_guard (by rfl) ?_; dsimp only)); refine box_event ?hg (N := 5) ?hd (cs := #[.int .i64 0, .int .i64 0, .int .i64 0, .int .i64 0, .int .i64 0]) (t := 47) ?hr ?_; (case hd => rfl); (case hg => rfl); (case hr => first | (go_simp; done) | (go_simp; rfl)); intro gb225 hg w18 hbox hb; have BK225 := Aside0.mk (hbox); have GW225 := zG (w := w) hg; have GE225 := zG (w := w) hg; replace HB := zBs hb; have NB223_225 := zN hg (zK BK223); have NB225_223 := zM hg (zK BK223); replace BK223 := zKb BK223 hb; clear hb hbox hg; have hnb19 := NB225_223.out; have hnc19 := NB223_225.out; obtain ⟨hcz20_0, hcz20_1, hcz20_2, hcz20_3, hcz20_4⟩ := zC5 BK225; obtain ⟨hfz20_0, hfz20_1, hfz20_2, hfz20_3, hfz20_4⟩ := zZ5 BK225))
        repeat (go_quiet (skip); try go_wp2)
        (try simp only [Act.put, List.setIfInBounds_toArray, List.set_cons_zero, List.set_cons_succ])
        go_cut [96] (fun v96 wc => ∃ (kq : Nat) (x96_15 : Bool), v96 = .bool x96_15 ∧ Aside0 (annuitantref36_Valid.j2 kq x3_2 x4_2 x96_15 a0_0 a0_1 l0_2 ((rd_T47 l0_2 x4_2).f0) ((rd_T47 l0_2 x4_2).f1) ((rd_T47 l0_2 x4_2).f2) ((rd_T47 l0_2 x4_2).f3) ((rd_T47 l0_2 x4_2).f4) = some r) ∧ Aside0 (kq ≤ k2) ∧ Aside0 (wc.heap[gb223]? = some (.cells #[.int .i64 a0_0, .int .i64 a0_1, (.slice (some ad224) l0_2.length c0_2)] 36 (0, 0))) ∧ Aside0 (wc.heap[gb225]? = some (.cells #[.int .i64 ((rd_T47 l0_2 x4_2).f0), .int .i64 ((rd_T47 l0_2 x4_2).f1), .int .i64 ((rd_T47 l0_2 x4_2).f2), .int .i64 ((rd_T47 l0_2 x4_2).f3), .int .i64 ((rd_T47 l0_2 x4_2).f4)] 47 (0, 0))) ∧ Aside0 (Below w.heap.size w wc))
        case first =>
         have H := HC16.out; clear HC16
         by_cases c21 : ((rd_T47 l0_2 x4_2).f0) < 1
         ·
          rw [if_pos c21] at H
          have c21b0 : decide (((rd_T47 l0_2 x4_2).f0) < 1) = true := decide_eq_true c21; clear c21
          (first | rw [c21b0] | (simp only [i64_w, i32_w]; rw [c21b0]) | skip)
          have H' := Aside0.mk H; clear H; have hnb22 := NB225_223.out; have hnc22 := NB223_225.out; obtain ⟨hcz23_0, hcz23_1, hcz23_2, hcz23_3, hcz23_4⟩ := zC5 BK225; obtain ⟨hfz23_0, hfz23_1, hfz23_2, hfz23_3, hfz23_4⟩ := zZ5 BK225
          go_wp2
          repeat (go_quiet (skip); try go_wp2)
          go_meet
          case rel => exact ⟨_, (true), (by first | rfl | (simp; done) | (simp [*]; done)), H', ⟨by have := HJ1.out; have := HK2.out; first | omega | exact Nat.le_refl _⟩, ⟨zF BK223⟩, ⟨by (with_reducible repeat (first | apply blk_drewN | apply blk_drew | apply blk_alloc)); refine blk_put (cs := #[.int .i64 ((rd_T47 l0_2 x4_2).f0), .int .i64 ((rd_T47 l0_2 x4_2).f1), .int .i64 ((rd_T47 l0_2 x4_2).f2), .int .i64 ((rd_T47 l0_2 x4_2).f3), .int .i64 0]) ?_ 4 _ rfl; (with_reducible repeat (first | apply blk_drewN | apply blk_drew | apply blk_alloc)); refine blk_put (cs := #[.int .i64 ((rd_T47 l0_2 x4_2).f0), .int .i64 ((rd_T47 l0_2 x4_2).f1), .int .i64 ((rd_T47 l0_2 x4_2).f2), .int .i64 0, .int .i64 0]) ?_ 3 _ rfl; (with_reducible repeat (first | apply blk_drewN | apply blk_drew | apply blk_alloc)); refine blk_put (cs := #[.int .i64 ((rd_T47 l0_2 x4_2).f0), .int .i64 ((rd_T47 l0_2 x4_2).f1), .int .i64 0, .int .i64 0, .int .i64 0]) ?_ 2 _ rfl; (with_reducible repeat (first | apply blk_drewN | apply blk_drew | apply blk_alloc)); refine blk_put (cs := #[.int .i64 ((rd_T47 l0_2 x4_2).f0), .int .i64 0, .int .i64 0, .int .i64 0, .int .i64 0]) ?_ 1 _ rfl; (with_reducible repeat (first | apply blk_drewN | apply blk_drew | apply blk_alloc)); refine blk_put (cs := #[.int .i64 0, .int .i64 0, .int .i64 0, .int .i64 0, .int .i64 0]) ?_ 0 _ rfl; (with_reducible repeat (first | apply blk_drewN | apply blk_drew | apply blk_alloc)); exact BK225.out⟩, ⟨zB⟩⟩
         ·
          rw [if_neg c21] at H
          have c21b0 : decide (((rd_T47 l0_2 x4_2).f0) < 1) = false := decide_eq_false c21; clear c21
          (first | rw [c21b0] | (simp only [i64_w, i32_w]; rw [c21b0]) | skip)
          by_cases c24 : ((rd_T47 l0_2 x4_2).f0) > 1099511627776
          ·
           rw [if_pos c24] at H
           have c24b0 : decide (1099511627776 < ((rd_T47 l0_2 x4_2).f0)) = true := decide_eq_true c24; clear c24; have H' := Aside0.mk H; clear H; have hnb25 := NB225_223.out; have hnc25 := NB223_225.out; obtain ⟨hcz26_0, hcz26_1, hcz26_2, hcz26_3, hcz26_4⟩ := zC5 BK225; obtain ⟨hfz26_0, hfz26_1, hfz26_2, hfz26_3, hfz26_4⟩ := zZ5 BK225
           go_wp2
           repeat (go_quiet (skip); try go_wp2)
           go_meet
           case rel => exact ⟨_, (true), (by first | rfl | (simp; done) | (simp [*]; done)), H', ⟨by have := HJ1.out; have := HK2.out; first | omega | exact Nat.le_refl _⟩, ⟨zF BK223⟩, ⟨by (with_reducible repeat (first | apply blk_drewN | apply blk_drew | apply blk_alloc)); refine blk_put (cs := #[.int .i64 ((rd_T47 l0_2 x4_2).f0), .int .i64 ((rd_T47 l0_2 x4_2).f1), .int .i64 ((rd_T47 l0_2 x4_2).f2), .int .i64 ((rd_T47 l0_2 x4_2).f3), .int .i64 0]) ?_ 4 _ rfl; (with_reducible repeat (first | apply blk_drewN | apply blk_drew | apply blk_alloc)); refine blk_put (cs := #[.int .i64 ((rd_T47 l0_2 x4_2).f0), .int .i64 ((rd_T47 l0_2 x4_2).f1), .int .i64 ((rd_T47 l0_2 x4_2).f2), .int .i64 0, .int .i64 0]) ?_ 3 _ rfl; (with_reducible repeat (first | apply blk_drewN | apply blk_drew | apply blk_alloc)); refine blk_put (cs := #[.int .i64 ((rd_T47 l0_2 x4_2).f0), .int .i64 ((rd_T47 l0_2 x4_2).f1), .int .i64 0, .int .i64 0, .int .i64 0]) ?_ 2 _ rfl; (with_reducible repeat (first | apply blk_drewN | apply blk_drew | apply blk_alloc)); refine blk_put (cs := #[.int .i64 ((rd_T47 l0_2 x4_2).f0), .int .i64 0, .int .i64 0, .int .i64 0, .int .i64 0]) ?_ 1 _ rfl; (with_reducible repeat (first | apply blk_drewN | apply blk_drew | apply blk_alloc)); refine blk_put (cs := #[.int .i64 0, .int .i64 0, .int .i64 0, .int .i64 0, .int .i64 0]) ?_ 0 _ rfl; (with_reducible repeat (first | apply blk_drewN | apply blk_drew | apply blk_alloc)); exact BK225.out⟩, ⟨zB⟩⟩
          ·
           rw [if_neg c24] at H
           have c24b0 : decide (1099511627776 < ((rd_T47 l0_2 x4_2).f0)) = false := decide_eq_false c24; clear c24
           by_cases c27 : ((rd_T47 l0_2 x4_2).f1) < 1
           ·
            rw [if_pos c27] at H
            have c27b0 : decide (((rd_T47 l0_2 x4_2).f1) < 1) = true := decide_eq_true c27; clear c27; have H' := Aside0.mk H; clear H; have hnb28 := NB225_223.out; have hnc28 := NB223_225.out; obtain ⟨hcz29_0, hcz29_1, hcz29_2, hcz29_3, hcz29_4⟩ := zC5 BK225; obtain ⟨hfz29_0, hfz29_1, hfz29_2, hfz29_3, hfz29_4⟩ := zZ5 BK225
            go_wp2
            repeat (go_quiet (skip); try go_wp2)
            go_meet
            case rel => exact ⟨_, (true), (by first | rfl | (simp; done) | (simp [*]; done)), H', ⟨by have := HJ1.out; have := HK2.out; first | omega | exact Nat.le_refl _⟩, ⟨zF BK223⟩, ⟨by (with_reducible repeat (first | apply blk_drewN | apply blk_drew | apply blk_alloc)); refine blk_put (cs := #[.int .i64 ((rd_T47 l0_2 x4_2).f0), .int .i64 ((rd_T47 l0_2 x4_2).f1), .int .i64 ((rd_T47 l0_2 x4_2).f2), .int .i64 ((rd_T47 l0_2 x4_2).f3), .int .i64 0]) ?_ 4 _ rfl; (with_reducible repeat (first | apply blk_drewN | apply blk_drew | apply blk_alloc)); refine blk_put (cs := #[.int .i64 ((rd_T47 l0_2 x4_2).f0), .int .i64 ((rd_T47 l0_2 x4_2).f1), .int .i64 ((rd_T47 l0_2 x4_2).f2), .int .i64 0, .int .i64 0]) ?_ 3 _ rfl; (with_reducible repeat (first | apply blk_drewN | apply blk_drew | apply blk_alloc)); refine blk_put (cs := #[.int .i64 ((rd_T47 l0_2 x4_2).f0), .int .i64 ((rd_T47 l0_2 x4_2).f1), .int .i64 0, .int .i64 0, .int .i64 0]) ?_ 2 _ rfl; (with_reducible repeat (first | apply blk_drewN | apply blk_drew | apply blk_alloc)); refine blk_put (cs := #[.int .i64 ((rd_T47 l0_2 x4_2).f0), .int .i64 0, .int .i64 0, .int .i64 0, .int .i64 0]) ?_ 1 _ rfl; (with_reducible repeat (first | apply blk_drewN | apply blk_drew | apply blk_alloc)); refine blk_put (cs := #[.int .i64 0, .int .i64 0, .int .i64 0, .int .i64 0, .int .i64 0]) ?_ 0 _ rfl; (with_reducible repeat (first | apply blk_drewN | apply blk_drew | apply blk_alloc)); exact BK225.out⟩, ⟨zB⟩⟩
           ·
            rw [if_neg c27] at H
            have c27b0 : decide (((rd_T47 l0_2 x4_2).f1) < 1) = false := decide_eq_false c27; clear c27
            by_cases c30 : ((rd_T47 l0_2 x4_2).f1) > 1099511627776
            ·
             rw [if_pos c30] at H
             have c30b0 : decide (1099511627776 < ((rd_T47 l0_2 x4_2).f1)) = true := decide_eq_true c30; clear c30; have H' := Aside0.mk H; clear H; have hnb31 := NB225_223.out; have hnc31 := NB223_225.out; obtain ⟨hcz32_0, hcz32_1, hcz32_2, hcz32_3, hcz32_4⟩ := zC5 BK225; obtain ⟨hfz32_0, hfz32_1, hfz32_2, hfz32_3, hfz32_4⟩ := zZ5 BK225
             go_wp2
             repeat (go_quiet (skip); try go_wp2)
             go_meet
             case rel => exact ⟨_, (true), (by first | rfl | (simp; done) | (simp [*]; done)), H', ⟨by have := HJ1.out; have := HK2.out; first | omega | exact Nat.le_refl _⟩, ⟨zF BK223⟩, ⟨by (with_reducible repeat (first | apply blk_drewN | apply blk_drew | apply blk_alloc)); refine blk_put (cs := #[.int .i64 ((rd_T47 l0_2 x4_2).f0), .int .i64 ((rd_T47 l0_2 x4_2).f1), .int .i64 ((rd_T47 l0_2 x4_2).f2), .int .i64 ((rd_T47 l0_2 x4_2).f3), .int .i64 0]) ?_ 4 _ rfl; (with_reducible repeat (first | apply blk_drewN | apply blk_drew | apply blk_alloc)); refine blk_put (cs := #[.int .i64 ((rd_T47 l0_2 x4_2).f0), .int .i64 ((rd_T47 l0_2 x4_2).f1), .int .i64 ((rd_T47 l0_2 x4_2).f2), .int .i64 0, .int .i64 0]) ?_ 3 _ rfl; (with_reducible repeat (first | apply blk_drewN | apply blk_drew | apply blk_alloc)); refine blk_put (cs := #[.int .i64 ((rd_T47 l0_2 x4_2).f0), .int .i64 ((rd_T47 l0_2 x4_2).f1), .int .i64 0, .int .i64 0, .int .i64 0]) ?_ 2 _ rfl; (with_reducible repeat (first | apply blk_drewN | apply blk_drew | apply blk_alloc)); refine blk_put (cs := #[.int .i64 ((rd_T47 l0_2 x4_2).f0), .int .i64 0, .int .i64 0, .int .i64 0, .int .i64 0]) ?_ 1 _ rfl; (with_reducible repeat (first | apply blk_drewN | apply blk_drew | apply blk_alloc)); refine blk_put (cs := #[.int .i64 0, .int .i64 0, .int .i64 0, .int .i64 0, .int .i64 0]) ?_ 0 _ rfl; (with_reducible repeat (first | apply blk_drewN | apply blk_drew | apply blk_alloc)); exact BK225.out⟩, ⟨zB⟩⟩
            ·
             rw [if_neg c30] at H
             have c30b0 : decide (1099511627776 < ((rd_T47 l0_2 x4_2).f1)) = false := decide_eq_false c30; clear c30
             by_cases c33 : ((rd_T47 l0_2 x4_2).f2) < 0
             ·
              rw [if_pos c33] at H
              have c33b0 : decide (((rd_T47 l0_2 x4_2).f2) < 0) = true := decide_eq_true c33; clear c33; have H' := Aside0.mk H; clear H; have hnb34 := NB225_223.out; have hnc34 := NB223_225.out; obtain ⟨hcz35_0, hcz35_1, hcz35_2, hcz35_3, hcz35_4⟩ := zC5 BK225; obtain ⟨hfz35_0, hfz35_1, hfz35_2, hfz35_3, hfz35_4⟩ := zZ5 BK225
              go_wp2
              repeat (go_quiet (skip); try go_wp2)
              go_meet
              case rel => exact ⟨_, (true), (by first | rfl | (simp; done) | (simp [*]; done)), H', ⟨by have := HJ1.out; have := HK2.out; first | omega | exact Nat.le_refl _⟩, ⟨zF BK223⟩, ⟨by (with_reducible repeat (first | apply blk_drewN | apply blk_drew | apply blk_alloc)); refine blk_put (cs := #[.int .i64 ((rd_T47 l0_2 x4_2).f0), .int .i64 ((rd_T47 l0_2 x4_2).f1), .int .i64 ((rd_T47 l0_2 x4_2).f2), .int .i64 ((rd_T47 l0_2 x4_2).f3), .int .i64 0]) ?_ 4 _ rfl; (with_reducible repeat (first | apply blk_drewN | apply blk_drew | apply blk_alloc)); refine blk_put (cs := #[.int .i64 ((rd_T47 l0_2 x4_2).f0), .int .i64 ((rd_T47 l0_2 x4_2).f1), .int .i64 ((rd_T47 l0_2 x4_2).f2), .int .i64 0, .int .i64 0]) ?_ 3 _ rfl; (with_reducible repeat (first | apply blk_drewN | apply blk_drew | apply blk_alloc)); refine blk_put (cs := #[.int .i64 ((rd_T47 l0_2 x4_2).f0), .int .i64 ((rd_T47 l0_2 x4_2).f1), .int .i64 0, .int .i64 0, .int .i64 0]) ?_ 2 _ rfl; (with_reducible repeat (first | apply blk_drewN | apply blk_drew | apply blk_alloc)); refine blk_put (cs := #[.int .i64 ((rd_T47 l0_2 x4_2).f0), .int .i64 0, .int .i64 0, .int .i64 0, .int .i64 0]) ?_ 1 _ rfl; (with_reducible repeat (first | apply blk_drewN | apply blk_drew | apply blk_alloc)); refine blk_put (cs := #[.int .i64 0, .int .i64 0, .int .i64 0, .int .i64 0, .int .i64 0]) ?_ 0 _ rfl; (with_reducible repeat (first | apply blk_drewN | apply blk_drew | apply blk_alloc)); exact BK225.out⟩, ⟨zB⟩⟩
             ·
              rw [if_neg c33] at H
              have c33b0 : decide (((rd_T47 l0_2 x4_2).f2) < 0) = false := decide_eq_false c33; clear c33
              by_cases c36 : ((rd_T47 l0_2 x4_2).f2) > 1099511627776
              ·
               rw [if_pos c36] at H
               have c36b0 : decide (1099511627776 < ((rd_T47 l0_2 x4_2).f2)) = true := decide_eq_true c36; clear c36; have H' := Aside0.mk H; clear H; have hnb37 := NB225_223.out; have hnc37 := NB223_225.out; obtain ⟨hcz38_0, hcz38_1, hcz38_2, hcz38_3, hcz38_4⟩ := zC5 BK225; obtain ⟨hfz38_0, hfz38_1, hfz38_2, hfz38_3, hfz38_4⟩ := zZ5 BK225
               go_wp2
               repeat (go_quiet (skip); try go_wp2)
               go_meet
               case rel => exact ⟨_, (true), (by first | rfl | (simp; done) | (simp [*]; done)), H', ⟨by have := HJ1.out; have := HK2.out; first | omega | exact Nat.le_refl _⟩, ⟨zF BK223⟩, ⟨by (with_reducible repeat (first | apply blk_drewN | apply blk_drew | apply blk_alloc)); refine blk_put (cs := #[.int .i64 ((rd_T47 l0_2 x4_2).f0), .int .i64 ((rd_T47 l0_2 x4_2).f1), .int .i64 ((rd_T47 l0_2 x4_2).f2), .int .i64 ((rd_T47 l0_2 x4_2).f3), .int .i64 0]) ?_ 4 _ rfl; (with_reducible repeat (first | apply blk_drewN | apply blk_drew | apply blk_alloc)); refine blk_put (cs := #[.int .i64 ((rd_T47 l0_2 x4_2).f0), .int .i64 ((rd_T47 l0_2 x4_2).f1), .int .i64 ((rd_T47 l0_2 x4_2).f2), .int .i64 0, .int .i64 0]) ?_ 3 _ rfl; (with_reducible repeat (first | apply blk_drewN | apply blk_drew | apply blk_alloc)); refine blk_put (cs := #[.int .i64 ((rd_T47 l0_2 x4_2).f0), .int .i64 ((rd_T47 l0_2 x4_2).f1), .int .i64 0, .int .i64 0, .int .i64 0]) ?_ 2 _ rfl; (with_reducible repeat (first | apply blk_drewN | apply blk_drew | apply blk_alloc)); refine blk_put (cs := #[.int .i64 ((rd_T47 l0_2 x4_2).f0), .int .i64 0, .int .i64 0, .int .i64 0, .int .i64 0]) ?_ 1 _ rfl; (with_reducible repeat (first | apply blk_drewN | apply blk_drew | apply blk_alloc)); refine blk_put (cs := #[.int .i64 0, .int .i64 0, .int .i64 0, .int .i64 0, .int .i64 0]) ?_ 0 _ rfl; (with_reducible repeat (first | apply blk_drewN | apply blk_drew | apply blk_alloc)); exact BK225.out⟩, ⟨zB⟩⟩
              ·
               rw [if_neg c36] at H
               have c36b0 : decide (1099511627776 < ((rd_T47 l0_2 x4_2).f2)) = false := decide_eq_false c36; clear c36
               by_cases c39 : ((rd_T47 l0_2 x4_2).f3) < (-1099511627776)
               ·
                rw [if_pos c39] at H
                have c39b0 : decide (((rd_T47 l0_2 x4_2).f3) < (-1099511627776)) = true := decide_eq_true c39; clear c39; have H' := Aside0.mk H; clear H; have hnb40 := NB225_223.out; have hnc40 := NB223_225.out; obtain ⟨hcz41_0, hcz41_1, hcz41_2, hcz41_3, hcz41_4⟩ := zC5 BK225; obtain ⟨hfz41_0, hfz41_1, hfz41_2, hfz41_3, hfz41_4⟩ := zZ5 BK225
                go_wp2
                repeat (go_quiet (skip); try go_wp2)
                go_meet
                case rel => exact ⟨_, (true), (by first | rfl | (simp; done) | (simp [*]; done)), H', ⟨by have := HJ1.out; have := HK2.out; first | omega | exact Nat.le_refl _⟩, ⟨zF BK223⟩, ⟨by (with_reducible repeat (first | apply blk_drewN | apply blk_drew | apply blk_alloc)); refine blk_put (cs := #[.int .i64 ((rd_T47 l0_2 x4_2).f0), .int .i64 ((rd_T47 l0_2 x4_2).f1), .int .i64 ((rd_T47 l0_2 x4_2).f2), .int .i64 ((rd_T47 l0_2 x4_2).f3), .int .i64 0]) ?_ 4 _ rfl; (with_reducible repeat (first | apply blk_drewN | apply blk_drew | apply blk_alloc)); refine blk_put (cs := #[.int .i64 ((rd_T47 l0_2 x4_2).f0), .int .i64 ((rd_T47 l0_2 x4_2).f1), .int .i64 ((rd_T47 l0_2 x4_2).f2), .int .i64 0, .int .i64 0]) ?_ 3 _ rfl; (with_reducible repeat (first | apply blk_drewN | apply blk_drew | apply blk_alloc)); refine blk_put (cs := #[.int .i64 ((rd_T47 l0_2 x4_2).f0), .int .i64 ((rd_T47 l0_2 x4_2).f1), .int .i64 0, .int .i64 0, .int .i64 0]) ?_ 2 _ rfl; (with_reducible repeat (first | apply blk_drewN | apply blk_drew | apply blk_alloc)); refine blk_put (cs := #[.int .i64 ((rd_T47 l0_2 x4_2).f0), .int .i64 0, .int .i64 0, .int .i64 0, .int .i64 0]) ?_ 1 _ rfl; (with_reducible repeat (first | apply blk_drewN | apply blk_drew | apply blk_alloc)); refine blk_put (cs := #[.int .i64 0, .int .i64 0, .int .i64 0, .int .i64 0, .int .i64 0]) ?_ 0 _ rfl; (with_reducible repeat (first | apply blk_drewN | apply blk_drew | apply blk_alloc)); exact BK225.out⟩, ⟨zB⟩⟩
               ·
                rw [if_neg c39] at H
                have c39b0 : decide (((rd_T47 l0_2 x4_2).f3) < (-1099511627776)) = false := decide_eq_false c39; clear c39
                by_cases c42 : ((rd_T47 l0_2 x4_2).f3) > ((rd_T47 l0_2 x4_2).f2)
                ·
                 rw [if_pos c42] at H
                 have c42b0 : decide (((rd_T47 l0_2 x4_2).f2) < ((rd_T47 l0_2 x4_2).f3)) = true := decide_eq_true c42; clear c42; have H' := Aside0.mk H; clear H; have hnb43 := NB225_223.out; have hnc43 := NB223_225.out; obtain ⟨hcz44_0, hcz44_1, hcz44_2, hcz44_3, hcz44_4⟩ := zC5 BK225; obtain ⟨hfz44_0, hfz44_1, hfz44_2, hfz44_3, hfz44_4⟩ := zZ5 BK225
                 go_wp2
                 repeat (go_quiet (skip); try go_wp2)
                 go_meet
                 case rel => exact ⟨_, (true), (by first | rfl | (simp; done) | (simp [*]; done)), H', ⟨by have := HJ1.out; have := HK2.out; first | omega | exact Nat.le_refl _⟩, ⟨zF BK223⟩, ⟨by (with_reducible repeat (first | apply blk_drewN | apply blk_drew | apply blk_alloc)); refine blk_put (cs := #[.int .i64 ((rd_T47 l0_2 x4_2).f0), .int .i64 ((rd_T47 l0_2 x4_2).f1), .int .i64 ((rd_T47 l0_2 x4_2).f2), .int .i64 ((rd_T47 l0_2 x4_2).f3), .int .i64 0]) ?_ 4 _ rfl; (with_reducible repeat (first | apply blk_drewN | apply blk_drew | apply blk_alloc)); refine blk_put (cs := #[.int .i64 ((rd_T47 l0_2 x4_2).f0), .int .i64 ((rd_T47 l0_2 x4_2).f1), .int .i64 ((rd_T47 l0_2 x4_2).f2), .int .i64 0, .int .i64 0]) ?_ 3 _ rfl; (with_reducible repeat (first | apply blk_drewN | apply blk_drew | apply blk_alloc)); refine blk_put (cs := #[.int .i64 ((rd_T47 l0_2 x4_2).f0), .int .i64 ((rd_T47 l0_2 x4_2).f1), .int .i64 0, .int .i64 0, .int .i64 0]) ?_ 2 _ rfl; (with_reducible repeat (first | apply blk_drewN | apply blk_drew | apply blk_alloc)); refine blk_put (cs := #[.int .i64 ((rd_T47 l0_2 x4_2).f0), .int .i64 0, .int .i64 0, .int .i64 0, .int .i64 0]) ?_ 1 _ rfl; (with_reducible repeat (first | apply blk_drewN | apply blk_drew | apply blk_alloc)); refine blk_put (cs := #[.int .i64 0, .int .i64 0, .int .i64 0, .int .i64 0, .int .i64 0]) ?_ 0 _ rfl; (with_reducible repeat (first | apply blk_drewN | apply blk_drew | apply blk_alloc)); exact BK225.out⟩, ⟨zB⟩⟩
                ·
                 rw [if_neg c42] at H
                 have c42b0 : decide (((rd_T47 l0_2 x4_2).f2) < ((rd_T47 l0_2 x4_2).f3)) = false := decide_eq_false c42; clear c42
                 by_cases c45 : ((rd_T47 l0_2 x4_2).f4) = (wrap64 (((rd_T47 l0_2 x4_2).f2) - ((rd_T47 l0_2 x4_2).f3)))
                 ·
                  rw [if_pos c45] at H
                  have c45b0 : (((rd_T47 l0_2 x4_2).f4) == (wrap64 (((rd_T47 l0_2 x4_2).f2) - ((rd_T47 l0_2 x4_2).f3)))) = true := beq_iff_eq.mpr c45; have c45b1 : (((rd_T47 l0_2 x4_2).f4) != (wrap64 (((rd_T47 l0_2 x4_2).f2) - ((rd_T47 l0_2 x4_2).f3)))) = false := bne_eq_false_iff_eq.mpr c45; clear c45; have H' := Aside0.mk H; clear H; have hnb46 := NB225_223.out; have hnc46 := NB223_225.out; obtain ⟨hcz47_0, hcz47_1, hcz47_2, hcz47_3, hcz47_4⟩ := zC5 BK225; obtain ⟨hfz47_0, hfz47_1, hfz47_2, hfz47_3, hfz47_4⟩ := zZ5 BK225
                  go_wp2
                  repeat (go_quiet (skip); try go_wp2)
                  go_meet
                  case rel => exact ⟨_, (decide (((rd_T47 l0_2 x4_2).f4) > 1099511627776)), (by first | rfl | (simp; done) | (simp [*]; done)), H', ⟨by have := HJ1.out; have := HK2.out; first | omega | exact Nat.le_refl _⟩, ⟨zF BK223⟩, ⟨by (with_reducible repeat (first | apply blk_drewN | apply blk_drew | apply blk_alloc)); refine blk_put (cs := #[.int .i64 ((rd_T47 l0_2 x4_2).f0), .int .i64 ((rd_T47 l0_2 x4_2).f1), .int .i64 ((rd_T47 l0_2 x4_2).f2), .int .i64 ((rd_T47 l0_2 x4_2).f3), .int .i64 0]) ?_ 4 _ rfl; (with_reducible repeat (first | apply blk_drewN | apply blk_drew | apply blk_alloc)); refine blk_put (cs := #[.int .i64 ((rd_T47 l0_2 x4_2).f0), .int .i64 ((rd_T47 l0_2 x4_2).f1), .int .i64 ((rd_T47 l0_2 x4_2).f2), .int .i64 0, .int .i64 0]) ?_ 3 _ rfl; (with_reducible repeat (first | apply blk_drewN | apply blk_drew | apply blk_alloc)); refine blk_put (cs := #[.int .i64 ((rd_T47 l0_2 x4_2).f0), .int .i64 ((rd_T47 l0_2 x4_2).f1), .int .i64 0, .int .i64 0, .int .i64 0]) ?_ 2 _ rfl; (with_reducible repeat (first | apply blk_drewN | apply blk_drew | apply blk_alloc)); refine blk_put (cs := #[.int .i64 ((rd_T47 l0_2 x4_2).f0), .int .i64 0, .int .i64 0, .int .i64 0, .int .i64 0]) ?_ 1 _ rfl; (with_reducible repeat (first | apply blk_drewN | apply blk_drew | apply blk_alloc)); refine blk_put (cs := #[.int .i64 0, .int .i64 0, .int .i64 0, .int .i64 0, .int .i64 0]) ?_ 0 _ rfl; (with_reducible repeat (first | apply blk_drewN | apply blk_drew | apply blk_alloc)); exact BK225.out⟩, ⟨zB⟩⟩
                 ·
                  rw [if_neg c45] at H
                  have c45b0 : (((rd_T47 l0_2 x4_2).f4) == (wrap64 (((rd_T47 l0_2 x4_2).f2) - ((rd_T47 l0_2 x4_2).f3)))) = false := beq_eq_false_iff_ne.mpr c45; have c45b1 : (((rd_T47 l0_2 x4_2).f4) != (wrap64 (((rd_T47 l0_2 x4_2).f2) - ((rd_T47 l0_2 x4_2).f3)))) = true := bne_iff_ne.mpr c45; have H' := Aside0.mk H; clear H; have hnb48 := NB225_223.out; have hnc48 := NB223_225.out; obtain ⟨hcz49_0, hcz49_1, hcz49_2, hcz49_3, hcz49_4⟩ := zC5 BK225; obtain ⟨hfz49_0, hfz49_1, hfz49_2, hfz49_3, hfz49_4⟩ := zZ5 BK225
                  go_wp2
                  repeat (go_quiet (skip); try go_wp2)
                  go_meet
                  case rel => exact ⟨_, (true), (by first | rfl | (simp; done) | (simp [*]; done)), H', ⟨by have := HJ1.out; have := HK2.out; first | omega | exact Nat.le_refl _⟩, ⟨zF BK223⟩, ⟨by (with_reducible repeat (first | apply blk_drewN | apply blk_drew | apply blk_alloc)); refine blk_put (cs := #[.int .i64 ((rd_T47 l0_2 x4_2).f0), .int .i64 ((rd_T47 l0_2 x4_2).f1), .int .i64 ((rd_T47 l0_2 x4_2).f2), .int .i64 ((rd_T47 l0_2 x4_2).f3), .int .i64 0]) ?_ 4 _ rfl; (with_reducible repeat (first | apply blk_drewN | apply blk_drew | apply blk_alloc)); refine blk_put (cs := #[.int .i64 ((rd_T47 l0_2 x4_2).f0), .int .i64 ((rd_T47 l0_2 x4_2).f1), .int .i64 ((rd_T47 l0_2 x4_2).f2), .int .i64 0, .int .i64 0]) ?_ 3 _ rfl; (with_reducible repeat (first | apply blk_drewN | apply blk_drew | apply blk_alloc)); refine blk_put (cs := #[.int .i64 ((rd_T47 l0_2 x4_2).f0), .int .i64 ((rd_T47 l0_2 x4_2).f1), .int .i64 0, .int .i64 0, .int .i64 0]) ?_ 2 _ rfl; (with_reducible repeat (first | apply blk_drewN | apply blk_drew | apply blk_alloc)); refine blk_put (cs := #[.int .i64 ((rd_T47 l0_2 x4_2).f0), .int .i64 0, .int .i64 0, .int .i64 0, .int .i64 0]) ?_ 1 _ rfl; (with_reducible repeat (first | apply blk_drewN | apply blk_drew | apply blk_alloc)); refine blk_put (cs := #[.int .i64 0, .int .i64 0, .int .i64 0, .int .i64 0, .int .i64 0]) ?_ 0 _ rfl; (with_reducible repeat (first | apply blk_drewN | apply blk_drew | apply blk_alloc)); exact BK225.out⟩, ⟨zB⟩⟩
        case rest =>
         clear HC16
         try clear c1
         try clear c2
         try clear p2
         try clear q2
         try clear hx2
         try clear c3
         try clear c4
         try clear c4b0
         try clear c6
         try clear c6b0
         try clear p6
         try clear c8
         try clear c8b0
         try clear c10
         try clear c10b0
         try clear c13
         try clear c14
         try clear c14b0
         try clear c15
         try clear c15b0
         try clear c19
         try clear c21
         try clear c21b0
         try clear c22
         try clear p22
         try clear q22
         try clear hx22
         try clear c24
         try clear c24b0
         try clear c25
         try clear c27
         try clear c27b0
         try clear c28
         try clear c30
         try clear c30b0
         try clear c31
         try clear c33
         try clear c33b0
         try clear c34
         try clear c35
         try clear c36
         try clear c36b0
         try clear c37
         try clear c39
         try clear c39b0
         try clear c40
         try clear c42
         try clear c42b0
         try clear c43
         try clear c45
         try clear c45b0
         try clear c45b1
         try clear c46
         try clear c48
         try clear hcz11_0
         try clear hcz11_1
         try clear hcz11_2
         try clear hcz12_0
         try clear hcz12_1
         try clear hcz12_2
         try clear hcz17_0
         try clear hcz17_1
         try clear hcz17_2
         try clear hcz20_0
         try clear hcz20_1
         try clear hcz20_2
         try clear hcz20_3
         try clear hcz20_4
         try clear hcz23_0
         try clear hcz23_1
         try clear hcz23_2
         try clear hcz23_3
         try clear hcz23_4
         try clear hcz26_0
         try clear hcz26_1
         try clear hcz26_2
         try clear hcz26_3
         try clear hcz26_4
         try clear hcz29_0
         try clear hcz29_1
         try clear hcz29_2
         try clear hcz29_3
         try clear hcz29_4
         try clear hcz32_0
         try clear hcz32_1
         try clear hcz32_2
         try clear hcz32_3
         try clear hcz32_4
         try clear hcz35_0
         try clear hcz35_1
         try clear hcz35_2
         try clear hcz35_3
         try clear hcz35_4
         try clear hcz38_0
         try clear hcz38_1
         try clear hcz38_2
         try clear hcz38_3
         try clear hcz38_4
         try clear hcz41_0
         try clear hcz41_1
         try clear hcz41_2
         try clear hcz41_3
         try clear hcz41_4
         try clear hcz44_0
         try clear hcz44_1
         try clear hcz44_2
         try clear hcz44_3
         try clear hcz44_4
         try clear hcz47_0
         try clear hcz47_1
         try clear hcz47_2
         try clear hcz47_3
         try clear hcz47_4
         try clear hcz49_0
         try clear hcz49_1
         try clear hcz49_2
         try clear hcz49_3
         try clear hcz49_4
         try clear hcz5_0
         try clear hcz5_1
         try clear hcz5_2
         try clear hcz7_0
         try clear hcz7_1
         try clear hcz7_2
         try clear hcz9_0
         try clear hcz9_1
         try clear hcz9_2
         try clear hfz11_0
         try clear hfz11_1
         try clear hfz11_2
         try clear hfz12_0
         try clear hfz12_1
         try clear hfz12_2
         try clear hfz17_0
         try clear hfz17_1
         try clear hfz17_2
         try clear hfz20_0
         try clear hfz20_1
         try clear hfz20_2
         try clear hfz20_3
         try clear hfz20_4
         try clear hfz23_0
         try clear hfz23_1
         try clear hfz23_2
         try clear hfz23_3
         try clear hfz23_4
         try clear hfz26_0
         try clear hfz26_1
         try clear hfz26_2
         try clear hfz26_3
         try clear hfz26_4
         try clear hfz29_0
         try clear hfz29_1
         try clear hfz29_2
         try clear hfz29_3
         try clear hfz29_4
         try clear hfz32_0
         try clear hfz32_1
         try clear hfz32_2
         try clear hfz32_3
         try clear hfz32_4
         try clear hfz35_0
         try clear hfz35_1
         try clear hfz35_2
         try clear hfz35_3
         try clear hfz35_4
         try clear hfz38_0
         try clear hfz38_1
         try clear hfz38_2
         try clear hfz38_3
         try clear hfz38_4
         try clear hfz41_0
         try clear hfz41_1
         try clear hfz41_2
         try clear hfz41_3
         try clear hfz41_4
         try clear hfz44_0
         try clear hfz44_1
         try clear hfz44_2
         try clear hfz44_3
         try clear hfz44_4
         try clear hfz47_0
         try clear hfz47_1
         try clear hfz47_2
         try clear hfz47_3
         try clear hfz47_4
         try clear hfz49_0
         try clear hfz49_1
         try clear hfz49_2
         try clear hfz49_3
         try clear hfz49_4
         try clear hfz5_0
         try clear hfz5_1
         try clear hfz5_2
         try clear hfz7_0
         try clear hfz7_1
         try clear hfz7_2
         try clear hfz9_0
         try clear hfz9_1
         try clear hfz9_2
         try clear hx224_0
         try clear hx224_1
         try clear hx224_2
         try clear hx224_3
         try clear hx224_4
         try clear p2
         try clear p224
         try clear q224
         obtain ⟨kq, x96_15, rfl, HA, HJ15, BK223, BK225, HB⟩ := hcut
         cases kq with
         | zero => exact absurd HA.out (by simp [annuitantref36_Valid.j2])
         | succ kj15 =>
          have H := HA.out; clear HA
          simp only [annuitantref36_Valid.j2] at H
          by_cases c50 : x96_15 = true
          ·
           subst c50
           have H1 : (some false) = some r := by rw [if_pos rfl] at H; exact H
           clear H; have H := H1; clear H1; obtain rfl := Option.some.inj H
           go_wp2
           repeat (go_quiet (skip); try go_wp2)
           go_ret
           exact ⟨zE, zB⟩
          ·
           replace c50 := Bool.eq_false_iff.mpr c50; subst c50
           have H1 : (if (wrap64 (x3_2 + ((rd_T47 l0_2 x4_2).f4))) > 1099511627776 then (some false) else (if x4_2 > 0 then (if 0 ≤ (wrap64 (x4_2 - 1)) then (if (wrap64 (x4_2 - 1)) < (l0_2.length : Int) then (if ((rd_T47 l0_2 x4_2).f0) ≤ ((rd_T47 l0_2 (wrap64 (x4_2 - 1))).f0) then (some false) else (annuitantref36_Valid.l0 kj15 (wrap64 (x3_2 + ((rd_T47 l0_2 x4_2).f4))) (wrap64 (x4_2 + 1)) a0_0 a0_1 l0_2)) else (none)) else (none)) else (annuitantref36_Valid.l0 kj15 (wrap64 (x3_2 + ((rd_T47 l0_2 x4_2).f4))) (wrap64 (x4_2 + 1)) a0_0 a0_1 l0_2))) = some r := by rw [if_neg (show ¬ (false = true) by decide)] at H; exact H
           clear H; have H := H1; clear H1
           by_cases c51 : (wrap64 (x3_2 + ((rd_T47 l0_2 x4_2).f4))) > 1099511627776
           ·
            rw [if_pos c51] at H
            have c51b0 : decide (1099511627776 < (wrap64 (x3_2 + ((rd_T47 l0_2 x4_2).f4)))) = true := decide_eq_true c51; clear c51; obtain rfl := Option.some.inj H; have hnb52 := NB225_223.out; have hnc52 := NB223_225.out; obtain ⟨hcz53_0, hcz53_1, hcz53_2, hcz53_3, hcz53_4⟩ := zC5 BK225; obtain ⟨hfz53_0, hfz53_1, hfz53_2, hfz53_3, hfz53_4⟩ := zZ5 BK225
            go_wp2
            repeat (go_quiet (skip); try go_wp2)
            go_ret
            exact ⟨zE, zB⟩
           ·
            rw [if_neg c51] at H
            have c51b0 : decide (1099511627776 < (wrap64 (x3_2 + ((rd_T47 l0_2 x4_2).f4)))) = false := decide_eq_false c51; clear c51
            by_cases c54 : x4_2 > 0
            ·
             rw [if_pos c54] at H
             have c54b0 : decide (0 < x4_2) = true := decide_eq_true c54; clear c54
             obtain ⟨ji55, hji55⟩ : ∃ j_ : Int, (wrap64 (x4_2 - 1)) = j_ := ⟨_, rfl⟩
             replace H : (if 0 ≤ (ji55) then (if (ji55) < (l0_2.length : Int) then (if ((rd_T47 l0_2 x4_2).f0) ≤ ((rd_T47 l0_2 (ji55)).f0) then (some false) else (annuitantref36_Valid.l0 kj15 (wrap64 (x3_2 + ((rd_T47 l0_2 x4_2).f4))) (wrap64 (x4_2 + 1)) a0_0 a0_1 l0_2)) else (none)) else (none)) = some r := by first | (rw [hji55] at H; exact H) | (simp only [hji55] at H ⊢; exact H)
             have hji55w : (IntKind.i64.wrap (x4_2 - 1)) = ji55 := (i64_w _).trans hji55
             by_cases c56 : 0 ≤ (ji55)
             ·
              rw [if_pos c56] at H
              have c56b0 : decide (0 ≤ (ji55)) = true := decide_eq_true c56; clear c56
              by_cases c57 : (ji55) < (l0_2.length : Int)
              ·
               rw [if_pos c57] at H
               have c57b0 : decide ((ji55) < (l0_2.length : Int)) = true := decide_eq_true c57; clear c57
               by_cases c58 : ((rd_T47 l0_2 x4_2).f0) ≤ ((rd_T47 l0_2 (ji55)).f0)
               ·
                rw [if_pos c58] at H
                have c58b0 : decide (((rd_T47 l0_2 x4_2).f0) ≤ ((rd_T47 l0_2 (ji55)).f0)) = true := decide_eq_true c58; clear c58; obtain rfl := Option.some.inj H; have hnb59 := NB225_223.out; have hnc59 := NB223_225.out; obtain ⟨hcz60_0, hcz60_1, hcz60_2, hcz60_3, hcz60_4⟩ := zC5 BK225; obtain ⟨hfz60_0, hfz60_1, hfz60_2, hfz60_3, hfz60_4⟩ := zZ5 BK225; obtain ⟨hcz61_0, hcz61_1, hcz61_2⟩ := zC3 BK223; obtain ⟨hfz61_0, hfz61_1, hfz61_2⟩ := zZ3 BK223; have p226 : 0 ≤ ((ji55) : Int) := zD; have q226 : (ji55) < (l0_2.length : Int) := zD; obtain ⟨ad226, e226, hx226_0, hx226_1, hx226_2, hx226_3, hx226_4⟩ := at_T47 HR0_2.out (ji55) p226 q226; obtain rfl : ad224 = ad226 := (by injection e226); replace hx226_0 := zL HB hx226_0; replace hx226_1 := zL HB hx226_1; replace hx226_2 := zL HB hx226_2; replace hx226_3 := zL HB hx226_3; replace hx226_4 := zL HB hx226_4; replace p226 := eq_true p226; replace q226 := eq_true q226
                go_wp2
                repeat (go_quiet (skip); try go_wp2)
                go_ret
                exact ⟨by first | rfl | (simp [errW_none, errW_some] <;> rfl) | (simp only [← hji55]; first | rfl | (simp [errW_none, errW_some] <;> rfl)) | (simp [*, errW_none, errW_some] <;> rfl), zB⟩
               ·
                rw [if_neg c58] at H
                have c58b0 : decide (((rd_T47 l0_2 x4_2).f0) ≤ ((rd_T47 l0_2 (ji55)).f0)) = false := decide_eq_false c58; clear c58; have H' := Aside0.mk H; clear H; have hnb62 := NB225_223.out; have hnc62 := NB223_225.out; obtain ⟨hcz63_0, hcz63_1, hcz63_2, hcz63_3, hcz63_4⟩ := zC5 BK225; obtain ⟨hfz63_0, hfz63_1, hfz63_2, hfz63_3, hfz63_4⟩ := zZ5 BK225; obtain ⟨hcz64_0, hcz64_1, hcz64_2⟩ := zC3 BK223; obtain ⟨hfz64_0, hfz64_1, hfz64_2⟩ := zZ3 BK223; have p226 : 0 ≤ ((ji55) : Int) := zD; have q226 : (ji55) < (l0_2.length : Int) := zD; obtain ⟨ad226, e226, hx226_0, hx226_1, hx226_2, hx226_3, hx226_4⟩ := at_T47 HR0_2.out (ji55) p226 q226; obtain rfl : ad224 = ad226 := (by injection e226); replace hx226_0 := zL HB hx226_0; replace hx226_1 := zL HB hx226_1; replace hx226_2 := zL HB hx226_2; replace hx226_3 := zL HB hx226_3; replace hx226_4 := zL HB hx226_4; replace p226 := eq_true p226; replace q226 := eq_true q226
                go_wp2
                repeat (go_quiet (skip); try go_wp2)
                go_roundg kj15
                case measure => have := HJ1.out; have := HK2.out; have := HJ15.out; omega
                case rel => exact ⟨(wrap64 (x3_2 + ((rd_T47 l0_2 x4_2).f4))), (wrap64 (x4_2 + 1)), (by first | rfl | (simp; done) | (simp [*]; done)), (by first | rfl | (simp; done) | (simp [*]; done)), H', ⟨by have := HJ1.out; have := HK2.out; have := HJ15.out; omega⟩, ⟨zK BK223⟩, ⟨zB⟩⟩
              ·
               rw [if_neg c57] at H
               exact absurd H (by simp)
             ·
              rw [if_neg c56] at H
              exact absurd H (by simp)
            ·
             rw [if_neg c54] at H
             have c54b0 : decide (0 < x4_2) = false := decide_eq_false c54; clear c54; have H' := Aside0.mk H; clear H; have hnb65 := NB225_223.out; have hnc65 := NB223_225.out; obtain ⟨hcz66_0, hcz66_1, hcz66_2, hcz66_3, hcz66_4⟩ := zC5 BK225; obtain ⟨hfz66_0, hfz66_1, hfz66_2, hfz66_3, hfz66_4⟩ := zZ5 BK225
             go_wp2
             repeat (go_quiet (skip); try go_wp2)
             go_roundg kj15
             case measure => have := HJ1.out; have := HK2.out; have := HJ15.out; omega
             case rel => exact ⟨(wrap64 (x3_2 + ((rd_T47 l0_2 x4_2).f4))), (wrap64 (x4_2 + 1)), (by first | rfl | (simp; done) | (simp [*]; done)), (by first | rfl | (simp; done) | (simp [*]; done)), H', ⟨by have := HJ1.out; have := HK2.out; have := HJ15.out; omega⟩, ⟨zK BK223⟩, ⟨zB⟩⟩
       ·
        rw [if_neg c15] at H
        exact absurd H (by simp)
      ·
       rw [if_neg c14] at H
       have c14b0 : decide (x4_2 < (l0_2.length : Int)) = false := decide_eq_false c14; clear c14; obtain rfl := Option.some.inj H; obtain ⟨hcz67_0, hcz67_1, hcz67_2⟩ := zC3 BK223; obtain ⟨hfz67_0, hfz67_1, hfz67_2⟩ := zZ3 BK223
       go_wp2
       repeat (go_quiet (skip); try go_wp2)
       go_ret
       exact ⟨zE, zB⟩
end Go.Proofs.YtndojpcjhkncgaaGreatDoor.Q
end

section
namespace Go.Proofs.YtndojpcjhkncgaaGreatDoor.Q
open Go.RowKit Go.Proofs.YtndojpcjhkncgaaGreatDoorW.PrintWords Go.Proofs.YtndojpcjhkncgaaGreatDoorW.PrintLast Go.Proofs.YtndojpcjhkncgaaGreatDoorW.PrintMore
attribute [local go_sem] max2_int min2_int max_two min_two max_three min_three max_four min_four   -- for this text's walks alone
set_option linter.unusedVariables false
set_option linter.unusedSimpArgs false
mutual
def annuitantref36_Right.j0 : Nat → Bool → Int → Int → List (S78) → Option (Bool)
 | 0, _, _, _, _ => none
 | k + 1, x28, x324000, x324001, x324002 => if x28 = true then (some false) else (annuitantref36_Right.l0 k 0 x324000 x324001 x324002)
def annuitantref36_Right.l0 : Nat → Int → Int → Int → List (S78) → Option (Bool)
 | 0, _, _, _, _ => none
 | k + 1, x3, x324000, x324001, x324002 => if x3 < (x324002.length : Int) then (if 0 ≤ x3 then (if ((rd_T78 x324002 x3).f0) < 1 then (some false) else (if ((rd_T78 x324002 x3).f0) > 1099511627776 then (some false) else (if ((rd_T78 x324002 x3).f1) < 1 then (some false) else (if ((rd_T78 x324002 x3).f1) > 9 then (some false) else (if x3 > 0 then (if 0 ≤ (wrap64 (x3 - 1)) then (if (wrap64 (x3 - 1)) < (x324002.length : Int) then (if ((rd_T78 x324002 x3).f0) ≤ ((rd_T78 x324002 (wrap64 (x3 - 1))).f0) then (some false) else (annuitantref36_Right.l0 k (wrap64 (x3 + 1)) x324000 x324001 x324002)) else (none)) else (none)) else (annuitantref36_Right.l0 k (wrap64 (x3 + 1)) x324000 x324001 x324002)))))) else (none)) else (some true)
end
def annuitantref36_Right.f (k : Nat) (a0_0 : Int) (a0_1 : Int) (l0_2 : List (S78)) : Option (Bool) := if a0_0 < 1 then (annuitantref36_Right.j0 k true a0_0 a0_1 l0_2) else (if a0_0 > 1099511627776 then (annuitantref36_Right.j0 k true a0_0 a0_1 l0_2) else (if a0_1 < 0 then (annuitantref36_Right.j0 k true a0_0 a0_1 l0_2) else (if a0_1 ≥ 65536 then (annuitantref36_Right.j0 k true a0_0 a0_1 l0_2) else (annuitantref36_Right.j0 k (decide ((l0_2.length : Int) > 1000)) a0_0 a0_1 l0_2))))
set_option maxHeartbeats 8000000 in
set_option maxRecDepth 100000 in
theorem annuitantref36_Right.calls (k : Nat) (a0_0 : Int) (a0_1 : Int) (A0_2 : Option Addr) (c0_2 : Nat) (l0_2 : List (S78)) (r : Bool) (w : World) (hr0_2 : Kd.C k78 w A0_2 l0_2.length l0_2) (hc0_2 : l0_2.length ≤ c0_2) (h : annuitantref36_Right.f k a0_0 a0_1 l0_2 = some r) :
  Calls Tryz.prog 38 #[.agg #[.int .i64 a0_0, .int .i64 a0_1, .slice A0_2 l0_2.length c0_2]] w fun e w' => e = .returned (.bool r) ∧ Below w.heap.size w w' := by
 have hu41 := Tryz.underlying41; have hu78 := Tryz.underlying78; have HR0_2 := Aside0.mk hr0_2; have HC0_2 := Aside0.mk hc0_2; clear hr0_2 hc0_2; have HB := Aside0.mk (Below.refl w.heap.size w); have H : (if a0_0 < 1 then (annuitantref36_Right.j0 k true a0_0 a0_1 l0_2) else (if a0_0 > 1099511627776 then (annuitantref36_Right.j0 k true a0_0 a0_1 l0_2) else (if a0_1 < 0 then (annuitantref36_Right.j0 k true a0_0 a0_1 l0_2) else (if a0_1 ≥ 65536 then (annuitantref36_Right.j0 k true a0_0 a0_1 l0_2) else (annuitantref36_Right.j0 k (decide ((l0_2.length : Int) > 1000)) a0_0 a0_1 l0_2))))) = some r := h; clear h; have HC2 := Aside0.mk H; clear H
 go_enter Tryz.func38, Tryz.ntmps38
 go_upto_region 1 with (first | ((with_reducible refine gate_dst (N := 1) rfl ?_); (try (refine gate_guard (by rfl) ?_; dsimp only)); refine box_event ?hg (N := 1) ?hd (cs := #[.int .i64 a0_0, .int .i64 a0_1, .slice A0_2 l0_2.length c0_2]) (t := 41) ?hr ?_; (case hd => rfl); (case hg => rfl); (case hr => first | (go_simp; done) | (go_simp; rfl)); intro gb323 hg w3 hbox hb; have BK323 := Aside0.mk (hbox); have GW323 := zG (w := w) hg; have GE323 := zG (w := w) hg; replace HB := zBs hb; clear hb hbox hg))
 repeat (go_quiet (skip); try go_wp2)
 (try simp only [Act.put, List.setIfInBounds_toArray, List.set_cons_zero, List.set_cons_succ])
 go_cut [28] (fun v28 wc => ∃ (kq : Nat) (x28_1 : Bool), v28 = .bool x28_1 ∧ Aside0 (annuitantref36_Right.j0 kq x28_1 a0_0 a0_1 l0_2 = some r) ∧ Aside0 (kq ≤ k) ∧ Aside0 (wc.heap[gb323]? = some (.cells #[.int .i64 a0_0, .int .i64 a0_1, (.slice A0_2 l0_2.length c0_2)] 41 (0, 0))) ∧ Aside0 (Below w.heap.size w wc))
 case first =>
  have H := HC2.out; clear HC2
  by_cases c4 : a0_0 < 1
  ·
   rw [if_pos c4] at H
   have c4b0 : decide (a0_0 < 1) = true := decide_eq_true c4; clear c4
   (first | rw [c4b0] | (simp only [i64_w, i32_w]; rw [c4b0]) | skip)
   have H' := Aside0.mk H; clear H; obtain ⟨hcz5_0, hcz5_1, hcz5_2⟩ := zC3 BK323; obtain ⟨hfz5_0, hfz5_1, hfz5_2⟩ := zZ3 BK323
   go_wp2
   repeat (go_quiet (skip); try go_wp2)
   go_meet
   case rel => exact ⟨_, (true), (by first | rfl | (simp; done) | (simp [*]; done)), H', ⟨by first | omega | exact Nat.le_refl _⟩, ⟨zK BK323⟩, ⟨zB⟩⟩
  ·
   rw [if_neg c4] at H
   have c4b0 : decide (a0_0 < 1) = false := decide_eq_false c4; clear c4
   (first | rw [c4b0] | (simp only [i64_w, i32_w]; rw [c4b0]) | skip)
   by_cases c6 : a0_0 > 1099511627776
   ·
    rw [if_pos c6] at H
    have c6b0 : decide (1099511627776 < a0_0) = true := decide_eq_true c6; clear c6; have H' := Aside0.mk H; clear H; obtain ⟨hcz7_0, hcz7_1, hcz7_2⟩ := zC3 BK323; obtain ⟨hfz7_0, hfz7_1, hfz7_2⟩ := zZ3 BK323
    go_wp2
    repeat (go_quiet (skip); try go_wp2)
    go_meet
    case rel => exact ⟨_, (true), (by first | rfl | (simp; done) | (simp [*]; done)), H', ⟨by first | omega | exact Nat.le_refl _⟩, ⟨zK BK323⟩, ⟨zB⟩⟩
   ·
    rw [if_neg c6] at H
    have c6b0 : decide (1099511627776 < a0_0) = false := decide_eq_false c6; clear c6
    by_cases c8 : a0_1 < 0
    ·
     rw [if_pos c8] at H
     have c8b0 : decide (a0_1 < 0) = true := decide_eq_true c8; clear c8; have H' := Aside0.mk H; clear H; obtain ⟨hcz9_0, hcz9_1, hcz9_2⟩ := zC3 BK323; obtain ⟨hfz9_0, hfz9_1, hfz9_2⟩ := zZ3 BK323
     go_wp2
     repeat (go_quiet (skip); try go_wp2)
     go_meet
     case rel => exact ⟨_, (true), (by first | rfl | (simp; done) | (simp [*]; done)), H', ⟨by first | omega | exact Nat.le_refl _⟩, ⟨zK BK323⟩, ⟨zB⟩⟩
    ·
     rw [if_neg c8] at H
     have c8b0 : decide (a0_1 < 0) = false := decide_eq_false c8; clear c8
     by_cases c10 : a0_1 ≥ 65536
     ·
      rw [if_pos c10] at H
      have c10b0 : decide (65536 ≤ a0_1) = true := decide_eq_true c10; clear c10; have H' := Aside0.mk H; clear H; obtain ⟨hcz11_0, hcz11_1, hcz11_2⟩ := zC3 BK323; obtain ⟨hfz11_0, hfz11_1, hfz11_2⟩ := zZ3 BK323
      go_wp2
      repeat (go_quiet (skip); try go_wp2)
      go_meet
      case rel => exact ⟨_, (true), (by first | rfl | (simp; done) | (simp [*]; done)), H', ⟨by first | omega | exact Nat.le_refl _⟩, ⟨zK BK323⟩, ⟨zB⟩⟩
     ·
      rw [if_neg c10] at H
      have c10b0 : decide (65536 ≤ a0_1) = false := decide_eq_false c10; clear c10; have H' := Aside0.mk H; clear H; obtain ⟨hcz12_0, hcz12_1, hcz12_2⟩ := zC3 BK323; obtain ⟨hfz12_0, hfz12_1, hfz12_2⟩ := zZ3 BK323
      go_wp2
      repeat (go_quiet (skip); try go_wp2)
      go_meet
      case rel => exact ⟨_, (decide ((l0_2.length : Int) > 1000)), (by first | rfl | (simp; done) | (simp [*]; done)), H', ⟨by first | omega | exact Nat.le_refl _⟩, ⟨zK BK323⟩, ⟨zB⟩⟩
 case rest =>
  clear HC2
  try clear c1
  try clear p2
  try clear c3
  try clear c4
  try clear c4b0
  try clear c6
  try clear c6b0
  try clear c8
  try clear c8b0
  try clear c10
  try clear c10b0
  try clear hcz11_0
  try clear hcz11_1
  try clear hcz11_2
  try clear hcz12_0
  try clear hcz12_1
  try clear hcz12_2
  try clear hcz5_0
  try clear hcz5_1
  try clear hcz5_2
  try clear hcz7_0
  try clear hcz7_1
  try clear hcz7_2
  try clear hcz9_0
  try clear hcz9_1
  try clear hcz9_2
  try clear hfz11_0
  try clear hfz11_1
  try clear hfz11_2
  try clear hfz12_0
  try clear hfz12_1
  try clear hfz12_2
  try clear hfz5_0
  try clear hfz5_1
  try clear hfz5_2
  try clear hfz7_0
  try clear hfz7_1
  try clear hfz7_2
  try clear hfz9_0
  try clear hfz9_1
  try clear hfz9_2
  obtain ⟨kq, x28_1, rfl, HA, HJ1, BK323, HB⟩ := hcut
  cases kq with
  | zero => exact absurd HA.out (by simp [annuitantref36_Right.j0])
  | succ kj1 =>
   have H := HA.out; clear HA
   simp only [annuitantref36_Right.j0] at H
   by_cases c13 : x28_1 = true
   ·
    subst c13
    have H1 : (some false) = some r := by rw [if_pos rfl] at H; exact H
    clear H; have H := H1; clear H1; obtain rfl := Option.some.inj H
    go_wp2
    repeat (go_quiet (skip); try go_wp2)
    go_ret
    exact ⟨zE, zB⟩
   ·
    replace c13 := Bool.eq_false_iff.mpr c13; subst c13
    have H1 : (annuitantref36_Right.l0 kj1 0 a0_0 a0_1 l0_2) = some r := by rw [if_neg (show ¬ (false = true) by decide)] at H; exact H
    clear H; have H := H1; clear H1; have H' := Aside0.mk H; clear H
    go_wp2
    repeat (go_quiet (skip); try go_wp2)
    go_loopg [3] kj1 (fun kq v3 w' => ∃ (x3_2 : Int), v3 = .int .i64 x3_2 ∧ Aside0 (annuitantref36_Right.l0 kq x3_2 a0_0 a0_1 l0_2 = some r) ∧ Aside0 (kq ≤ kj1) ∧ Aside0 (w'.heap[gb323]? = some (.cells #[.int .i64 a0_0, .int .i64 a0_1, (.slice A0_2 l0_2.length c0_2)] 41 (0, 0))) ∧ Aside0 (Below w.heap.size w w'))
    case atStart => exact ⟨(0), (by first | rfl | (simp; done) | (simp [*]; done)), H', ⟨Nat.le_refl _⟩, ⟨zK BK323⟩, ⟨zB⟩⟩
    case round =>
     clear H'
     try clear c1
     try clear p2
     try clear c3
     try clear c4
     try clear c4b0
     try clear c6
     try clear c6b0
     try clear c8
     try clear c8b0
     try clear c10
     try clear c10b0
     try clear c13
     try clear hcz11_0
     try clear hcz11_1
     try clear hcz11_2
     try clear hcz12_0
     try clear hcz12_1
     try clear hcz12_2
     try clear hcz5_0
     try clear hcz5_1
     try clear hcz5_2
     try clear hcz7_0
     try clear hcz7_1
     try clear hcz7_2
     try clear hcz9_0
     try clear hcz9_1
     try clear hcz9_2
     try clear hfz11_0
     try clear hfz11_1
     try clear hfz11_2
     try clear hfz12_0
     try clear hfz12_1
     try clear hfz12_2
     try clear hfz5_0
     try clear hfz5_1
     try clear hfz5_2
     try clear hfz7_0
     try clear hfz7_1
     try clear hfz7_2
     try clear hfz9_0
     try clear hfz9_1
     try clear hfz9_2
     try clear p2
     obtain ⟨x3_2, rfl, HA, HK2, BK323, HB⟩ := hrel
     cases gk with
     | zero => exact absurd HA.out (by simp [annuitantref36_Right.l0])
     | succ k2 =>
      have H := HA.out; clear HA
      simp only [annuitantref36_Right.l0] at H
      by_cases c14 : x3_2 < (l0_2.length : Int)
      ·
       rw [if_pos c14] at H
       have c14b0 : decide (x3_2 < (l0_2.length : Int)) = true := decide_eq_true c14; clear c14
       by_cases c15 : 0 ≤ x3_2
       ·
        rw [if_pos c15] at H
        have c15b0 : decide (0 ≤ x3_2) = true := decide_eq_true c15; clear c15
        by_cases c16 : ((rd_T78 l0_2 x3_2).f0) < 1
        ·
         rw [if_pos c16] at H
         have c16b0 : decide (((rd_T78 l0_2 x3_2).f0) < 1) = true := decide_eq_true c16; clear c16; obtain rfl := Option.some.inj H; obtain ⟨hcz17_0, hcz17_1, hcz17_2⟩ := zC3 BK323; obtain ⟨hfz17_0, hfz17_1, hfz17_2⟩ := zZ3 BK323; have p324 : 0 ≤ (x3_2 : Int) := zD; have q324 : x3_2 < (l0_2.length : Int) := zD; obtain ⟨ad324, e324, hx324_0, hx324_1⟩ := at_T78 HR0_2.out x3_2 p324 q324
         cases e324
         replace hx324_0 := zL HB hx324_0; replace hx324_1 := zL HB hx324_1; replace p324 := eq_true p324; replace q324 := eq_true q324
         go_wp2_with (first | ((with_reducible refine gate_dst (N := 4) rfl ?_); (try (refine gate_guard (by rfl) ?_; dsimp only)); refine box_event ?hg (N := 4) ?hd (cs := #[.int .i64 0, .int .i64 0]) (t := 78) ?hr ?_; (case hd => rfl); (case hg => rfl); (case hr => first | (go_simp; done) | (go_simp; rfl)); intro gb325 hg w18 hbox hb; have BK325 := Aside0.mk (hbox); have GW325 := zG (w := w) hg; have GE325 := zG (w := w) hg; replace HB := zBs hb; have NB323_325 := zN hg (zK BK323); have NB325_323 := zM hg (zK BK323); replace BK323 := zKb BK323 hb; clear hb hbox hg; have hnb19 := NB325_323.out; have hnc19 := NB323_325.out; obtain ⟨hcz20_0, hcz20_1⟩ := zC2 BK325; obtain ⟨hfz20_0, hfz20_1⟩ := zZ2 BK325))
         repeat (go_quiet (skip); try go_wp2)
         go_ret
         exact ⟨zE, zB⟩
        ·
         rw [if_neg c16] at H
         have c16b0 : decide (((rd_T78 l0_2 x3_2).f0) < 1) = false := decide_eq_false c16; clear c16
         by_cases c21 : ((rd_T78 l0_2 x3_2).f0) > 1099511627776
         ·
          rw [if_pos c21] at H
          have c21b0 : decide (1099511627776 < ((rd_T78 l0_2 x3_2).f0)) = true := decide_eq_true c21; clear c21; obtain rfl := Option.some.inj H; obtain ⟨hcz22_0, hcz22_1, hcz22_2⟩ := zC3 BK323; obtain ⟨hfz22_0, hfz22_1, hfz22_2⟩ := zZ3 BK323; have p324 : 0 ≤ (x3_2 : Int) := zD; have q324 : x3_2 < (l0_2.length : Int) := zD; obtain ⟨ad324, e324, hx324_0, hx324_1⟩ := at_T78 HR0_2.out x3_2 p324 q324
          cases e324
          replace hx324_0 := zL HB hx324_0; replace hx324_1 := zL HB hx324_1; replace p324 := eq_true p324; replace q324 := eq_true q324
          go_wp2_with (first | ((with_reducible refine gate_dst (N := 4) rfl ?_); (try (refine gate_guard (by rfl) ?_; dsimp only)); refine box_event ?hg (N := 4) ?hd (cs := #[.int .i64 0, .int .i64 0]) (t := 78) ?hr ?_; (case hd => rfl); (case hg => rfl); (case hr => first | (go_simp; done) | (go_simp; rfl)); intro gb325 hg w23 hbox hb; have BK325 := Aside0.mk (hbox); have GW325 := zG (w := w) hg; have GE325 := zG (w := w) hg; replace HB := zBs hb; have NB323_325 := zN hg (zK BK323); have NB325_323 := zM hg (zK BK323); replace BK323 := zKb BK323 hb; clear hb hbox hg; have hnb24 := NB325_323.out; have hnc24 := NB323_325.out; obtain ⟨hcz25_0, hcz25_1⟩ := zC2 BK325; obtain ⟨hfz25_0, hfz25_1⟩ := zZ2 BK325))
          repeat (go_quiet (skip); try go_wp2)
          go_ret
          exact ⟨zE, zB⟩
         ·
          rw [if_neg c21] at H
          have c21b0 : decide (1099511627776 < ((rd_T78 l0_2 x3_2).f0)) = false := decide_eq_false c21; clear c21
          by_cases c26 : ((rd_T78 l0_2 x3_2).f1) < 1
          ·
           rw [if_pos c26] at H
           have c26b0 : decide (((rd_T78 l0_2 x3_2).f1) < 1) = true := decide_eq_true c26; clear c26; obtain rfl := Option.some.inj H; obtain ⟨hcz27_0, hcz27_1, hcz27_2⟩ := zC3 BK323; obtain ⟨hfz27_0, hfz27_1, hfz27_2⟩ := zZ3 BK323; have p324 : 0 ≤ (x3_2 : Int) := zD; have q324 : x3_2 < (l0_2.length : Int) := zD; obtain ⟨ad324, e324, hx324_0, hx324_1⟩ := at_T78 HR0_2.out x3_2 p324 q324
           cases e324
           replace hx324_0 := zL HB hx324_0; replace hx324_1 := zL HB hx324_1; replace p324 := eq_true p324; replace q324 := eq_true q324
           go_wp2_with (first | ((with_reducible refine gate_dst (N := 4) rfl ?_); (try (refine gate_guard (by rfl) ?_; dsimp only)); refine box_event ?hg (N := 4) ?hd (cs := #[.int .i64 0, .int .i64 0]) (t := 78) ?hr ?_; (case hd => rfl); (case hg => rfl); (case hr => first | (go_simp; done) | (go_simp; rfl)); intro gb325 hg w28 hbox hb; have BK325 := Aside0.mk (hbox); have GW325 := zG (w := w) hg; have GE325 := zG (w := w) hg; replace HB := zBs hb; have NB323_325 := zN hg (zK BK323); have NB325_323 := zM hg (zK BK323); replace BK323 := zKb BK323 hb; clear hb hbox hg; have hnb29 := NB325_323.out; have hnc29 := NB323_325.out; obtain ⟨hcz30_0, hcz30_1⟩ := zC2 BK325; obtain ⟨hfz30_0, hfz30_1⟩ := zZ2 BK325))
           repeat (go_quiet (skip); try go_wp2)
           go_ret
           exact ⟨zE, zB⟩
          ·
           rw [if_neg c26] at H
           have c26b0 : decide (((rd_T78 l0_2 x3_2).f1) < 1) = false := decide_eq_false c26; clear c26
           by_cases c31 : ((rd_T78 l0_2 x3_2).f1) > 9
           ·
            rw [if_pos c31] at H
            have c31b0 : decide (9 < ((rd_T78 l0_2 x3_2).f1)) = true := decide_eq_true c31; clear c31; obtain rfl := Option.some.inj H; obtain ⟨hcz32_0, hcz32_1, hcz32_2⟩ := zC3 BK323; obtain ⟨hfz32_0, hfz32_1, hfz32_2⟩ := zZ3 BK323; have p324 : 0 ≤ (x3_2 : Int) := zD; have q324 : x3_2 < (l0_2.length : Int) := zD; obtain ⟨ad324, e324, hx324_0, hx324_1⟩ := at_T78 HR0_2.out x3_2 p324 q324
            cases e324
            replace hx324_0 := zL HB hx324_0; replace hx324_1 := zL HB hx324_1; replace p324 := eq_true p324; replace q324 := eq_true q324
            go_wp2_with (first | ((with_reducible refine gate_dst (N := 4) rfl ?_); (try (refine gate_guard (by rfl) ?_; dsimp only)); refine box_event ?hg (N := 4) ?hd (cs := #[.int .i64 0, .int .i64 0]) (t := 78) ?hr ?_; (case hd => rfl); (case hg => rfl); (case hr => first | (go_simp; done) | (go_simp; rfl)); intro gb325 hg w33 hbox hb; have BK325 := Aside0.mk (hbox); have GW325 := zG (w := w) hg; have GE325 := zG (w := w) hg; replace HB := zBs hb; have NB323_325 := zN hg (zK BK323); have NB325_323 := zM hg (zK BK323); replace BK323 := zKb BK323 hb; clear hb hbox hg; have hnb34 := NB325_323.out; have hnc34 := NB323_325.out; obtain ⟨hcz35_0, hcz35_1⟩ := zC2 BK325; obtain ⟨hfz35_0, hfz35_1⟩ := zZ2 BK325))
            repeat (go_quiet (skip); try go_wp2)
            go_ret
            exact ⟨zE, zB⟩
           ·
            rw [if_neg c31] at H
            have c31b0 : decide (9 < ((rd_T78 l0_2 x3_2).f1)) = false := decide_eq_false c31; clear c31
            by_cases c36 : x3_2 > 0
            ·
             rw [if_pos c36] at H
             have c36b0 : decide (0 < x3_2) = true := decide_eq_true c36; clear c36
             obtain ⟨ji37, hji37⟩ : ∃ j_ : Int, (wrap64 (x3_2 - 1)) = j_ := ⟨_, rfl⟩
             replace H : (if 0 ≤ (ji37) then (if (ji37) < (l0_2.length : Int) then (if ((rd_T78 l0_2 x3_2).f0) ≤ ((rd_T78 l0_2 (ji37)).f0) then (some false) else (annuitantref36_Right.l0 k2 (wrap64 (x3_2 + 1)) a0_0 a0_1 l0_2)) else (none)) else (none)) = some r := by first | (rw [hji37] at H; exact H) | (simp only [hji37] at H ⊢; exact H)
             have hji37w : (IntKind.i64.wrap (x3_2 - 1)) = ji37 := (i64_w _).trans hji37
             by_cases c38 : 0 ≤ (ji37)
             ·
              rw [if_pos c38] at H
              have c38b0 : decide (0 ≤ (ji37)) = true := decide_eq_true c38; clear c38
              by_cases c39 : (ji37) < (l0_2.length : Int)
              ·
               rw [if_pos c39] at H
               have c39b0 : decide ((ji37) < (l0_2.length : Int)) = true := decide_eq_true c39; clear c39
               by_cases c40 : ((rd_T78 l0_2 x3_2).f0) ≤ ((rd_T78 l0_2 (ji37)).f0)
               ·
                rw [if_pos c40] at H
                have c40b0 : decide (((rd_T78 l0_2 x3_2).f0) ≤ ((rd_T78 l0_2 (ji37)).f0)) = true := decide_eq_true c40; clear c40; obtain rfl := Option.some.inj H; obtain ⟨hcz41_0, hcz41_1, hcz41_2⟩ := zC3 BK323; obtain ⟨hfz41_0, hfz41_1, hfz41_2⟩ := zZ3 BK323; have p324 : 0 ≤ (x3_2 : Int) := zD; have q324 : x3_2 < (l0_2.length : Int) := zD; obtain ⟨ad324, e324, hx324_0, hx324_1⟩ := at_T78 HR0_2.out x3_2 p324 q324
                cases e324
                replace hx324_0 := zL HB hx324_0; replace hx324_1 := zL HB hx324_1; replace p324 := eq_true p324; replace q324 := eq_true q324
                go_wp2_with (first | ((with_reducible refine gate_dst (N := 4) rfl ?_); (try (refine gate_guard (by rfl) ?_; dsimp only)); refine box_event ?hg (N := 4) ?hd (cs := #[.int .i64 0, .int .i64 0]) (t := 78) ?hr ?_; (case hd => rfl); (case hg => rfl); (case hr => first | (go_simp; done) | (go_simp; rfl)); intro gb325 hg w42 hbox hb; have BK325 := Aside0.mk (hbox); have GW325 := zG (w := w) hg; have GE325 := zG (w := w) hg; replace HB := zBs hb; have NB323_325 := zN hg (zK BK323); have NB325_323 := zM hg (zK BK323); replace BK323 := zKb BK323 hb; clear hb hbox hg; have hnb43 := NB325_323.out; have hnc43 := NB323_325.out; obtain ⟨hcz44_0, hcz44_1⟩ := zC2 BK325; obtain ⟨hfz44_0, hfz44_1⟩ := zZ2 BK325; obtain ⟨hcz45_0, hcz45_1, hcz45_2⟩ := zC3 BK323; obtain ⟨hfz45_0, hfz45_1, hfz45_2⟩ := zZ3 BK323; have p326 : 0 ≤ ((ji37) : Int) := zD; have q326 : (ji37) < (l0_2.length : Int) := zD; obtain ⟨ad326, e326, hx326_0, hx326_1⟩ := at_T78 HR0_2.out (ji37) p326 q326; obtain rfl : ad324 = ad326 := (by injection e326); have hn326_0 : ad324.block ≠ gb325 := Nat.ne_of_lt (Nat.lt_of_lt_of_le (by have := World.block_lt_of_cell? _ _ hx326_0; first | rwa [add_block] at this | exact this) GW325.out); have hn326_1 : ad324.block ≠ gb325 := Nat.ne_of_lt (Nat.lt_of_lt_of_le (by have := World.block_lt_of_cell? _ _ hx326_0; first | rwa [add_block] at this | exact this) GW325.out); replace hx326_0 := zL HB hx326_0; replace hx326_1 := zL HB hx326_1; replace hx326_0 := (cell_far (p := ⟨gb325, 0, none⟩) (by first | (rw [add_block]; exact hn326_0) | (show (Addr.add _ _).block ≠ _; rw [add_block]; exact hn326_0) | exact hn326_0) (.int .i64 ((rd_T78 l0_2 x3_2).f0))).trans hx326_0; replace hx326_1 := (cell_far (p := ⟨gb325, 0, none⟩) (by first | (rw [add_block]; exact hn326_0) | (show (Addr.add _ _).block ≠ _; rw [add_block]; exact hn326_0) | exact hn326_0) (.int .i64 ((rd_T78 l0_2 x3_2).f0))).trans hx326_1; replace hx326_0 := (cell_far (p := ⟨gb325, 1, none⟩) (by first | (rw [add_block]; exact hn326_1) | (show (Addr.add _ _).block ≠ _; rw [add_block]; exact hn326_1) | exact hn326_1) (.int .i64 ((rd_T78 l0_2 x3_2).f1))).trans hx326_0; replace hx326_1 := (cell_far (p := ⟨gb325, 1, none⟩) (by first | (rw [add_block]; exact hn326_1) | (show (Addr.add _ _).block ≠ _; rw [add_block]; exact hn326_1) | exact hn326_1) (.int .i64 ((rd_T78 l0_2 x3_2).f1))).trans hx326_1; (try have hy326_0 := fun (n_ : Nat) => (show ((((w42.drewN n_).setCell ⟨gb325, 0, none⟩ (.int .i64 ((rd_T78 l0_2 x3_2).f0))).setCell ⟨gb325, 1, none⟩ (.int .i64 ((rd_T78 l0_2 x3_2).f1)))).cell? _ = some _ from hx326_0)); (try have hy326_1 := fun (n_ : Nat) => (show ((((w42.drewN n_).setCell ⟨gb325, 0, none⟩ (.int .i64 ((rd_T78 l0_2 x3_2).f0))).setCell ⟨gb325, 1, none⟩ (.int .i64 ((rd_T78 l0_2 x3_2).f1)))).cell? _ = some _ from hx326_1)); clear hn326_0; clear hn326_1; replace p326 := eq_true p326; replace q326 := eq_true q326))
                repeat (go_quiet (skip); try go_wp2)
                go_ret
                exact ⟨by first | rfl | (simp [errW_none, errW_some] <;> rfl) | (simp only [← hji37]; first | rfl | (simp [errW_none, errW_some] <;> rfl)) | (simp [*, errW_none, errW_some] <;> rfl), zB⟩
               ·
                rw [if_neg c40] at H
                have c40b0 : decide (((rd_T78 l0_2 x3_2).f0) ≤ ((rd_T78 l0_2 (ji37)).f0)) = false := decide_eq_false c40; clear c40; have H' := Aside0.mk H; clear H; obtain ⟨hcz46_0, hcz46_1, hcz46_2⟩ := zC3 BK323; obtain ⟨hfz46_0, hfz46_1, hfz46_2⟩ := zZ3 BK323; have p324 : 0 ≤ (x3_2 : Int) := zD; have q324 : x3_2 < (l0_2.length : Int) := zD; obtain ⟨ad324, e324, hx324_0, hx324_1⟩ := at_T78 HR0_2.out x3_2 p324 q324
                cases e324
                replace hx324_0 := zL HB hx324_0; replace hx324_1 := zL HB hx324_1; replace p324 := eq_true p324; replace q324 := eq_true q324
                go_wp2_with (first | ((with_reducible refine gate_dst (N := 4) rfl ?_); (try (refine gate_guard (by rfl) ?_; dsimp only)); refine box_event ?hg (N := 4) ?hd (cs := #[.int .i64 0, .int .i64 0]) (t := 78) ?hr ?_; (case hd => rfl); (case hg => rfl); (case hr => first | (go_simp; done) | (go_simp; rfl)); intro gb325 hg w47 hbox hb; have BK325 := Aside0.mk (hbox); have GW325 := zG (w := w) hg; have GE325 := zG (w := w) hg; replace HB := zBs hb; have NB323_325 := zN hg (zK BK323); have NB325_323 := zM hg (zK BK323); replace BK323 := zKb BK323 hb; clear hb hbox hg; have hnb48 := NB325_323.out; have hnc48 := NB323_325.out; obtain ⟨hcz49_0, hcz49_1⟩ := zC2 BK325; obtain ⟨hfz49_0, hfz49_1⟩ := zZ2 BK325; obtain ⟨hcz50_0, hcz50_1, hcz50_2⟩ := zC3 BK323; obtain ⟨hfz50_0, hfz50_1, hfz50_2⟩ := zZ3 BK323; have p326 : 0 ≤ ((ji37) : Int) := zD; have q326 : (ji37) < (l0_2.length : Int) := zD; obtain ⟨ad326, e326, hx326_0, hx326_1⟩ := at_T78 HR0_2.out (ji37) p326 q326; obtain rfl : ad324 = ad326 := (by injection e326); have hn326_0 : ad324.block ≠ gb325 := Nat.ne_of_lt (Nat.lt_of_lt_of_le (by have := World.block_lt_of_cell? _ _ hx326_0; first | rwa [add_block] at this | exact this) GW325.out); have hn326_1 : ad324.block ≠ gb325 := Nat.ne_of_lt (Nat.lt_of_lt_of_le (by have := World.block_lt_of_cell? _ _ hx326_0; first | rwa [add_block] at this | exact this) GW325.out); replace hx326_0 := zL HB hx326_0; replace hx326_1 := zL HB hx326_1; replace hx326_0 := (cell_far (p := ⟨gb325, 0, none⟩) (by first | (rw [add_block]; exact hn326_0) | (show (Addr.add _ _).block ≠ _; rw [add_block]; exact hn326_0) | exact hn326_0) (.int .i64 ((rd_T78 l0_2 x3_2).f0))).trans hx326_0; replace hx326_1 := (cell_far (p := ⟨gb325, 0, none⟩) (by first | (rw [add_block]; exact hn326_0) | (show (Addr.add _ _).block ≠ _; rw [add_block]; exact hn326_0) | exact hn326_0) (.int .i64 ((rd_T78 l0_2 x3_2).f0))).trans hx326_1; replace hx326_0 := (cell_far (p := ⟨gb325, 1, none⟩) (by first | (rw [add_block]; exact hn326_1) | (show (Addr.add _ _).block ≠ _; rw [add_block]; exact hn326_1) | exact hn326_1) (.int .i64 ((rd_T78 l0_2 x3_2).f1))).trans hx326_0; replace hx326_1 := (cell_far (p := ⟨gb325, 1, none⟩) (by first | (rw [add_block]; exact hn326_1) | (show (Addr.add _ _).block ≠ _; rw [add_block]; exact hn326_1) | exact hn326_1) (.int .i64 ((rd_T78 l0_2 x3_2).f1))).trans hx326_1; (try have hy326_0 := fun (n_ : Nat) => (show ((((w47.drewN n_).setCell ⟨gb325, 0, none⟩ (.int .i64 ((rd_T78 l0_2 x3_2).f0))).setCell ⟨gb325, 1, none⟩ (.int .i64 ((rd_T78 l0_2 x3_2).f1)))).cell? _ = some _ from hx326_0)); (try have hy326_1 := fun (n_ : Nat) => (show ((((w47.drewN n_).setCell ⟨gb325, 0, none⟩ (.int .i64 ((rd_T78 l0_2 x3_2).f0))).setCell ⟨gb325, 1, none⟩ (.int .i64 ((rd_T78 l0_2 x3_2).f1)))).cell? _ = some _ from hx326_1)); clear hn326_0; clear hn326_1; replace p326 := eq_true p326; replace q326 := eq_true q326))
                repeat (go_quiet (skip); try go_wp2)
                go_roundg k2
                case measure => have := HJ1.out; have := HK2.out; omega
                case rel => exact ⟨(wrap64 (x3_2 + 1)), (by first | rfl | (simp; done) | (simp [*]; done)), H', ⟨by have := HJ1.out; have := HK2.out; omega⟩, ⟨zF BK323⟩, ⟨zB⟩⟩
              ·
               rw [if_neg c39] at H
               exact absurd H (by simp)
             ·
              rw [if_neg c38] at H
              exact absurd H (by simp)
            ·
             rw [if_neg c36] at H
             have c36b0 : decide (0 < x3_2) = false := decide_eq_false c36; clear c36; have H' := Aside0.mk H; clear H; obtain ⟨hcz51_0, hcz51_1, hcz51_2⟩ := zC3 BK323; obtain ⟨hfz51_0, hfz51_1, hfz51_2⟩ := zZ3 BK323; have p324 : 0 ≤ (x3_2 : Int) := zD; have q324 : x3_2 < (l0_2.length : Int) := zD; obtain ⟨ad324, e324, hx324_0, hx324_1⟩ := at_T78 HR0_2.out x3_2 p324 q324
             cases e324
             replace hx324_0 := zL HB hx324_0; replace hx324_1 := zL HB hx324_1; replace p324 := eq_true p324; replace q324 := eq_true q324
             go_wp2_with (first | ((with_reducible refine gate_dst (N := 4) rfl ?_); (try (refine gate_guard (by rfl) ?_; dsimp only)); refine box_event ?hg (N := 4) ?hd (cs := #[.int .i64 0, .int .i64 0]) (t := 78) ?hr ?_; (case hd => rfl); (case hg => rfl); (case hr => first | (go_simp; done) | (go_simp; rfl)); intro gb325 hg w52 hbox hb; have BK325 := Aside0.mk (hbox); have GW325 := zG (w := w) hg; have GE325 := zG (w := w) hg; replace HB := zBs hb; have NB323_325 := zN hg (zK BK323); have NB325_323 := zM hg (zK BK323); replace BK323 := zKb BK323 hb; clear hb hbox hg; have hnb53 := NB325_323.out; have hnc53 := NB323_325.out; obtain ⟨hcz54_0, hcz54_1⟩ := zC2 BK325; obtain ⟨hfz54_0, hfz54_1⟩ := zZ2 BK325))
             repeat (go_quiet (skip); try go_wp2)
             go_roundg k2
             case measure => have := HJ1.out; have := HK2.out; omega
             case rel => exact ⟨(wrap64 (x3_2 + 1)), (by first | rfl | (simp; done) | (simp [*]; done)), H', ⟨by have := HJ1.out; have := HK2.out; omega⟩, ⟨zF BK323⟩, ⟨zB⟩⟩
       ·
        rw [if_neg c15] at H
        exact absurd H (by simp)
      ·
       rw [if_neg c14] at H
       have c14b0 : decide (x3_2 < (l0_2.length : Int)) = false := decide_eq_false c14; clear c14; obtain rfl := Option.some.inj H; obtain ⟨hcz55_0, hcz55_1, hcz55_2⟩ := zC3 BK323; obtain ⟨hfz55_0, hfz55_1, hfz55_2⟩ := zZ3 BK323
       go_wp2
       repeat (go_quiet (skip); try go_wp2)
       go_ret
       exact ⟨zE, zB⟩
end Go.Proofs.YtndojpcjhkncgaaGreatDoor.Q
end

section
namespace Go.Proofs.YtndojpcjhkncgaaGreatDoor.Q
open Go.RowKit Go.Proofs.YtndojpcjhkncgaaGreatDoorW.PrintWords Go.Proofs.YtndojpcjhkncgaaGreatDoorW.PrintLast Go.Proofs.YtndojpcjhkncgaaGreatDoorW.PrintMore
attribute [local go_sem] max2_int min2_int max_two min_two max_three min_three max_four min_four   -- for this text's walks alone
set_option linter.unusedVariables false
set_option linter.unusedSimpArgs false
def bank_total.l0 : Nat → Int → List (S47) → Int → Int → Option (Int)
 | 0, _, _, _, _ => none
 | k + 1, x3, x7, x8, x9 => if x9 < x8 then (if 0 ≤ x9 then (if x9 < (x7.length : Int) then (bank_total.l0 k (wrap64 (x3 + ((rd_T47 x7 x9).f4))) x7 x8 (wrap64 (x9 + 1))) else (none)) else (none)) else (some x3)
def bank_total.f (k : Nat) (a0_0 : Int) (a0_1 : Int) (l0_2 : List (S47)) : Option (Int) := bank_total.l0 k 0 l0_2 (l0_2.length : Int) 0
set_option maxHeartbeats 8000000 in
set_option maxRecDepth 100000 in
theorem bank_total.calls (k : Nat) (a0_0 : Int) (a0_1 : Int) (A0_2 : Option Addr) (c0_2 : Nat) (l0_2 : List (S47)) (r : Int) (w : World) (hr0_2 : Kd.C k47 w A0_2 l0_2.length l0_2) (hc0_2 : l0_2.length ≤ c0_2) (h : bank_total.f k a0_0 a0_1 l0_2 = some r) :
  Calls Tryz.prog 46 #[.agg #[.int .i64 a0_0, .int .i64 a0_1, .slice A0_2 l0_2.length c0_2]] w fun e w' => e = .returned (.int .i64 r) ∧ Below w.heap.size w w' := by
 have hu27 := Tryz.underlying27; have hu47 := Tryz.underlying47; have HR0_2 := Aside0.mk hr0_2; have HC0_2 := Aside0.mk hc0_2; clear hr0_2 hc0_2; have HB := Aside0.mk (Below.refl w.heap.size w); have H : (bank_total.l0 k 0 l0_2 (l0_2.length : Int) 0) = some r := h; clear h; have H' := Aside0.mk H; clear H
 go_enter Tryz.func46, Tryz.ntmps46
 go_wp2_with (first | ((with_reducible refine gate_dst (N := 1) rfl ?_); refine box_event ?hg (N := 1) ?hd (cs := #[.int .i64 a0_0, .int .i64 a0_1, .slice A0_2 l0_2.length c0_2]) (t := 27) ?hr ?_; (case hd => rfl); (case hg => rfl); (case hr => first | (go_simp; done) | (go_simp; rfl)); intro gb124 hg w2 hbox hb; have BK124 := Aside0.mk (hbox); have GW124 := zG (w := w) hg; have GE124 := zG (w := w) hg; replace HB := zBs hb; clear hb hbox hg; obtain ⟨hcz3_0, hcz3_1, hcz3_2⟩ := zC3 BK124; obtain ⟨hfz3_0, hfz3_1, hfz3_2⟩ := zZ3 BK124))
 go_loopg [3, 9] k (fun kq v3 v9 w' => ∃ (x3_1 : Int) (x9_1 : Int), v3 = .int .i64 x3_1 ∧ v9 = .int .i64 x9_1 ∧ Aside0 (bank_total.l0 kq x3_1 l0_2 (l0_2.length : Int) x9_1 = some r) ∧ Aside0 (kq ≤ k) ∧ Aside0 (w'.heap[gb124]? = some (.cells #[.int .i64 a0_0, .int .i64 a0_1, (.slice A0_2 l0_2.length c0_2)] 27 (0, 0))) ∧ Aside0 (Below w.heap.size w w'))
 case atStart => exact ⟨(0), (0), (by first | rfl | (simp; done) | (simp [*]; done)), (by first | rfl | (simp; done) | (simp [*]; done)), H', ⟨Nat.le_refl _⟩, ⟨zK BK124⟩, ⟨zB⟩⟩
 case round =>
  clear H'
  try clear p2
  try clear hcz3_0
  try clear hcz3_1
  try clear hcz3_2
  try clear hfz3_0
  try clear hfz3_1
  try clear hfz3_2
  obtain ⟨x3_1, x9_1, rfl, rfl, HA, HK1, BK124, HB⟩ := hrel
  cases gk with
  | zero => exact absurd HA.out (by simp [bank_total.l0])
  | succ k1 =>
   have H := HA.out; clear HA
   simp only [bank_total.l0] at H
   by_cases c4 : x9_1 < (l0_2.length : Int)
   ·
    rw [if_pos c4] at H
    have c4b0 : decide (x9_1 < (l0_2.length : Int)) = true := decide_eq_true c4; clear c4
    by_cases c5 : 0 ≤ x9_1
    ·
     rw [if_pos c5] at H
     have c5b0 : decide (0 ≤ x9_1) = true := decide_eq_true c5; clear c5
     by_cases c6 : x9_1 < (l0_2.length : Int)
     ·
      rw [if_pos c6] at H
      have c6b0 : decide (x9_1 < (l0_2.length : Int)) = true := decide_eq_true c6; clear c6; have H' := Aside0.mk H; clear H; have p125 : 0 ≤ (x9_1 : Int) := zD; have q125 : x9_1 < (l0_2.length : Int) := zD; obtain ⟨ad125, e125, hx125_0, hx125_1, hx125_2, hx125_3, hx125_4⟩ := at_T47 HR0_2.out x9_1 p125 q125
      cases e125
      replace hx125_0 := zL HB hx125_0; replace hx125_1 := zL HB hx125_1; replace hx125_2 := zL HB hx125_2; replace hx125_3 := zL HB hx125_3; replace hx125_4 := zL HB hx125_4; replace p125 := eq_true p125; replace q125 := eq_true q125
      go_wp2_with (first | ((with_reducible refine gate_dst (N := 5) rfl ?_); refine box_event ?hg (N := 5) ?hd (cs := #[.int .i64 0, .int .i64 0, .int .i64 0, .int .i64 0, .int .i64 0]) (t := 47) ?hr ?_; (case hd => rfl); (case hg => rfl); (case hr => first | (go_simp; done) | (go_simp; rfl)); intro gb126 hg w7 hbox hb; have BK126 := Aside0.mk (hbox); have GW126 := zG (w := w) hg; have GE126 := zG (w := w) hg; replace HB := zBs hb; have NB124_126 := zN hg (zK BK124); have NB126_124 := zM hg (zK BK124); replace BK124 := zKb BK124 hb; clear hb hbox hg; have hnb8 := NB126_124.out; have hnc8 := NB124_126.out; obtain ⟨hcz9_0, hcz9_1, hcz9_2, hcz9_3, hcz9_4⟩ := zC5 BK126; obtain ⟨hfz9_0, hfz9_1, hfz9_2, hfz9_3, hfz9_4⟩ := zZ5 BK126))
      go_roundg k1
      case measure => have := HK1.out; omega
      case rel => exact ⟨(wrap64 (x3_1 + ((rd_T47 l0_2 x9_1).f4))), (wrap64 (x9_1 + 1)), (by first | rfl | (simp; done) | (simp [*]; done)), (by first | rfl | (simp; done) | (simp [*]; done)), H', ⟨by have := HK1.out; omega⟩, ⟨zF BK124⟩, ⟨zB⟩⟩
     ·
      rw [if_neg c6] at H
      exact absurd H (by simp)
    ·
     rw [if_neg c5] at H
     exact absurd H (by simp)
   ·
    rw [if_neg c4] at H
    have c4b0 : decide (x9_1 < (l0_2.length : Int)) = false := decide_eq_false c4; clear c4; obtain rfl := Option.some.inj H
    go_wp2
    go_ret
    exact ⟨zE, zB⟩
end Go.Proofs.YtndojpcjhkncgaaGreatDoor.Q
end

section
namespace Go.Proofs.YtndojpcjhkncgaaGreatDoor.Q
open Go.RowKit Go.Proofs.YtndojpcjhkncgaaGreatDoorW.PrintWords Go.Proofs.YtndojpcjhkncgaaGreatDoorW.PrintLast Go.Proofs.YtndojpcjhkncgaaGreatDoorW.PrintMore
attribute [local go_sem] max2_int min2_int max_two min_two max_three min_three max_four min_four   -- for this text's walks alone
set_option linter.unusedVariables false
set_option linter.unusedSimpArgs false
def bank_Total.f (k : Nat) (a0_0 : Int) (a0_1 : Int) (l0_2 : List (S47)) : Option (Int × Int) := (bank_Valid.f k a0_0 a0_1 l0_2).bind fun t128 => (if t128 = true then ((bank_total.f k a0_0 a0_1 l0_2).bind fun t129 => (some (t129, 0))) else (some (0, 2)))
set_option maxHeartbeats 8000000 in
set_option maxRecDepth 100000 in
theorem bank_Total.calls (k : Nat) (a0_0 : Int) (a0_1 : Int) (A0_2 : Option Addr) (c0_2 : Nat) (l0_2 : List (S47)) (r1 : Int) (r2 : Int) (w : World) (hr0_2 : Kd.C k47 w A0_2 l0_2.length l0_2) (hc0_2 : l0_2.length ≤ c0_2) (h : bank_Total.f k a0_0 a0_1 l0_2 = some (r1, r2)) :
  Calls Tryz.prog 26 #[.agg #[.int .i64 a0_0, .int .i64 a0_1, .slice A0_2 l0_2.length c0_2]] w fun e w' => e = .returned (.tuple #[.int .i64 r1, .int .i64 r2]) ∧ Below w.heap.size w w' := by
 have hu27 := Tryz.underlying27; have HR0_2 := Aside0.mk hr0_2; have HC0_2 := Aside0.mk hc0_2; clear hr0_2 hc0_2; have HB := Aside0.mk (Below.refl w.heap.size w); have H : ((bank_Valid.f k a0_0 a0_1 l0_2).bind fun t128 => (if t128 = true then ((bank_total.f k a0_0 a0_1 l0_2).bind fun t129 => (some (t129, 0))) else (some (0, 2)))) = some (r1, r2) := h; clear h; replace H := Option.bind_eq_some_iff.mp H; obtain ⟨t128, A20, H⟩ := H; replace H : (if t128 = true then ((bank_total.f k a0_0 a0_1 l0_2).bind fun t129 => (some (t129, 0))) else (some (0, 2))) = some (r1, r2) := H; have A2 := Aside0.mk A20; clear A20
 by_cases c3 : t128 = true
 ·
  subst c3
  have H1 : ((bank_total.f k a0_0 a0_1 l0_2).bind fun t129 => (some (t129, 0))) = some (r1, r2) := by rw [if_pos rfl] at H; exact H
  clear H; have H := H1; clear H1; replace H := Option.bind_eq_some_iff.mp H; obtain ⟨t129, A40, H⟩ := H; replace H : (some (t129, 0)) = some (r1, r2) := H; have A4 := Aside0.mk A40; clear A40
  simp only [Option.some.injEq, Prod.mk.injEq] at H
  obtain ⟨rfl, rfl⟩ := H
  go_enter Tryz.func26, Tryz.ntmps26
  go_wp2_with (first | ((with_reducible refine gate_dst (N := 1) rfl ?_); refine box_event ?hg (N := 1) ?hd (cs := #[.int .i64 a0_0, .int .i64 a0_1, .slice A0_2 l0_2.length c0_2]) (t := 27) ?hr ?_; (case hd => rfl); (case hg => rfl); (case hr => first | (go_simp; done) | (go_simp; rfl)); intro gb127 hg w5 hbox hb; have BK127 := Aside0.mk (hbox); have GW127 := zG (w := w) hg; have GE127 := zG (w := w) hg; replace HB := zBs hb; clear hb hbox hg; obtain ⟨hcz6_0, hcz6_1, hcz6_2⟩ := zC3 BK127; obtain ⟨hfz6_0, hfz6_1, hfz6_2⟩ := zZ3 BK127) | ((with_reducible refine gate_callee (f := 22) rfl ?_); refine goesL_ (some 5) rfl rfl Tryz.func22 (by kernel_rfl) rfl #[.agg #[.int .i64 a0_0, .int .i64 a0_1, .slice A0_2 l0_2.length c0_2]] rfl (by (try simp only [List.map_toArray, List.map_cons, List.map_nil]); try rfl) ?_; (with_reducible refine (bank_Valid.calls k a0_0 a0_1 _ _ l0_2 true _ ?side1 ?side2 A2.out).mono ?_); (case side1 => repeat (first | exact (Kd.C_below HR0_2.out HB.out) | (with_reducible refine Kd.C_alloc ?_ _) | (with_reducible refine Kd.C_drewN ?_ _) | (with_reducible refine Kd.C_drew ?_))); (case side2 => exact HC0_2.out); rintro e w7 ⟨rfl, hb⟩; refine ⟨_, rfl, ?_⟩; replace BK127 := zKb BK127 hb; replace HB := zBs hb; (try clear hb); (try clear hb2); (try clear hk); (try clear hi); obtain ⟨hcz8_0, hcz8_1, hcz8_2⟩ := zC3 BK127; obtain ⟨hfz8_0, hfz8_1, hfz8_2⟩ := zZ3 BK127) | ((with_reducible refine gate_callee (f := 46) rfl ?_); refine goesL_ (some 8) rfl rfl Tryz.func46 (by kernel_rfl) rfl #[.agg #[.int .i64 a0_0, .int .i64 a0_1, .slice A0_2 l0_2.length c0_2]] rfl (by (try simp only [List.map_toArray, List.map_cons, List.map_nil]); try rfl) ?_; (with_reducible refine (bank_total.calls k a0_0 a0_1 _ _ l0_2 t129 _ ?side1 ?side2 A4.out).mono ?_); (case side1 => repeat (first | exact (Kd.C_below HR0_2.out HB.out) | (with_reducible refine Kd.C_alloc ?_ _) | (with_reducible refine Kd.C_drewN ?_ _) | (with_reducible refine Kd.C_drew ?_))); (case side2 => exact HC0_2.out); rintro e w9 ⟨rfl, hb⟩; refine ⟨_, rfl, ?_⟩; replace BK127 := zKb BK127 hb; replace HB := zBs hb; (try clear hb); (try clear hb2); (try clear hk); (try clear hi)))
  go_ret2
  exact ⟨zE, zB⟩
 ·
  replace c3 := Bool.eq_false_iff.mpr c3; subst c3
  have H1 : (some (0, 2)) = some (r1, r2) := by rw [if_neg (show ¬ (false = true) by decide)] at H; exact H
  clear H; have H := H1; clear H1
  simp only [Option.some.injEq, Prod.mk.injEq] at H
  obtain ⟨rfl, rfl⟩ := H
  go_enter Tryz.func26, Tryz.ntmps26
  go_wp2_with (first | ((with_reducible refine gate_dst (N := 1) rfl ?_); refine box_event ?hg (N := 1) ?hd (cs := #[.int .i64 a0_0, .int .i64 a0_1, .slice A0_2 l0_2.length c0_2]) (t := 27) ?hr ?_; (case hd => rfl); (case hg => rfl); (case hr => first | (go_simp; done) | (go_simp; rfl)); intro gb127 hg w10 hbox hb; have BK127 := Aside0.mk (hbox); have GW127 := zG (w := w) hg; have GE127 := zG (w := w) hg; replace HB := zBs hb; clear hb hbox hg; obtain ⟨hcz11_0, hcz11_1, hcz11_2⟩ := zC3 BK127; obtain ⟨hfz11_0, hfz11_1, hfz11_2⟩ := zZ3 BK127) | ((with_reducible refine gate_callee (f := 22) rfl ?_); refine goesL_ (some 5) rfl rfl Tryz.func22 (by kernel_rfl) rfl #[.agg #[.int .i64 a0_0, .int .i64 a0_1, .slice A0_2 l0_2.length c0_2]] rfl (by (try simp only [List.map_toArray, List.map_cons, List.map_nil]); try rfl) ?_; (with_reducible refine (bank_Valid.calls k a0_0 a0_1 _ _ l0_2 false _ ?side1 ?side2 A2.out).mono ?_); (case side1 => repeat (first | exact (Kd.C_below HR0_2.out HB.out) | (with_reducible refine Kd.C_alloc ?_ _) | (with_reducible refine Kd.C_drewN ?_ _) | (with_reducible refine Kd.C_drew ?_))); (case side2 => exact HC0_2.out); rintro e w12 ⟨rfl, hb⟩; refine ⟨_, rfl, ?_⟩; replace BK127 := zKb BK127 hb; replace HB := zBs hb; (try clear hb); (try clear hb2); (try clear hk); (try clear hi)))
  go_ret2
  exact ⟨zE, zB⟩
end Go.Proofs.YtndojpcjhkncgaaGreatDoor.Q
end

section
namespace Go.Proofs.YtndojpcjhkncgaaGreatDoor.Q
open Go.RowKit Go.Proofs.YtndojpcjhkncgaaGreatDoorW.PrintWords Go.Proofs.YtndojpcjhkncgaaGreatDoorW.PrintLast Go.Proofs.YtndojpcjhkncgaaGreatDoorW.PrintMore
attribute [local go_sem] max2_int min2_int max_two min_two max_three min_three max_four min_four   -- for this text's walks alone
set_option linter.unusedVariables false
set_option linter.unusedSimpArgs false
def annuitantref36_sum.l0 : Nat → Int → Int → Int → Int → List (S47) → Option (Int)
 | 0, _, _, _, _, _ => none
 | k + 1, x3, x4, x237000, x237001, x237002 => if x4 < (x237002.length : Int) then (if 0 ≤ x4 then (annuitantref36_sum.l0 k (wrap64 (x3 + ((rd_T47 x237002 x4).f4))) (wrap64 (x4 + 1)) x237000 x237001 x237002) else (none)) else (some x3)
def annuitantref36_sum.f (k : Nat) (a0_0 : Int) (a0_1 : Int) (l0_2 : List (S47)) : Option (Int) := annuitantref36_sum.l0 k 0 0 a0_0 a0_1 l0_2
set_option maxHeartbeats 8000000 in
set_option maxRecDepth 100000 in
theorem annuitantref36_sum.calls (k : Nat) (a0_0 : Int) (a0_1 : Int) (A0_2 : Option Addr) (c0_2 : Nat) (l0_2 : List (S47)) (r : Int) (w : World) (hr0_2 : Kd.C k47 w A0_2 l0_2.length l0_2) (hc0_2 : l0_2.length ≤ c0_2) (h : annuitantref36_sum.f k a0_0 a0_1 l0_2 = some r) :
  Calls Tryz.prog 37 #[.agg #[.int .i64 a0_0, .int .i64 a0_1, .slice A0_2 l0_2.length c0_2]] w fun e w' => e = .returned (.int .i64 r) ∧ Below w.heap.size w w' := by
 have hu36 := Tryz.underlying36; have HR0_2 := Aside0.mk hr0_2; have HC0_2 := Aside0.mk hc0_2; clear hr0_2 hc0_2; have HB := Aside0.mk (Below.refl w.heap.size w); have H : (annuitantref36_sum.l0 k 0 0 a0_0 a0_1 l0_2) = some r := h; clear h; have H' := Aside0.mk H; clear H
 go_enter Tryz.func37, Tryz.ntmps37
 go_wp2_with (first | ((with_reducible refine gate_dst (N := 1) rfl ?_); refine box_event ?hg (N := 1) ?hd (cs := #[.int .i64 a0_0, .int .i64 a0_1, .slice A0_2 l0_2.length c0_2]) (t := 36) ?hr ?_; (case hd => rfl); (case hg => rfl); (case hr => first | (go_simp; done) | (go_simp; rfl)); intro gb236 hg w2 hbox hb; have BK236 := Aside0.mk (hbox); have GW236 := zG (w := w) hg; have GE236 := zG (w := w) hg; replace HB := zBs hb; clear hb hbox hg))
 go_loopg [3, 4] k (fun kq v3 v4 w' => ∃ (x3_1 : Int) (x4_1 : Int), v3 = .int .i64 x3_1 ∧ v4 = .int .i64 x4_1 ∧ Aside0 (annuitantref36_sum.l0 kq x3_1 x4_1 a0_0 a0_1 l0_2 = some r) ∧ Aside0 (kq ≤ k) ∧ Aside0 (w'.heap[gb236]? = some (.cells #[.int .i64 a0_0, .int .i64 a0_1, (.slice A0_2 l0_2.length c0_2)] 36 (0, 0))) ∧ Aside0 (Below w.heap.size w w'))
 case atStart => exact ⟨(0), (0), (by first | rfl | (simp; done) | (simp [*]; done)), (by first | rfl | (simp; done) | (simp [*]; done)), H', ⟨Nat.le_refl _⟩, ⟨zK BK236⟩, ⟨zB⟩⟩
 case round =>
  clear H'
  try clear p2
  obtain ⟨x3_1, x4_1, rfl, rfl, HA, HK1, BK236, HB⟩ := hrel
  cases gk with
  | zero => exact absurd HA.out (by simp [annuitantref36_sum.l0])
  | succ k1 =>
   have H := HA.out; clear HA
   simp only [annuitantref36_sum.l0] at H
   by_cases c3 : x4_1 < (l0_2.length : Int)
   ·
    rw [if_pos c3] at H
    have c3b0 : decide (x4_1 < (l0_2.length : Int)) = true := decide_eq_true c3; clear c3
    by_cases c4 : 0 ≤ x4_1
    ·
     rw [if_pos c4] at H
     have c4b0 : decide (0 ≤ x4_1) = true := decide_eq_true c4; clear c4; have H' := Aside0.mk H; clear H; obtain ⟨hcz5_0, hcz5_1, hcz5_2⟩ := zC3 BK236; obtain ⟨hfz5_0, hfz5_1, hfz5_2⟩ := zZ3 BK236; have p237 : 0 ≤ (x4_1 : Int) := zD; have q237 : x4_1 < (l0_2.length : Int) := zD; obtain ⟨ad237, e237, hx237_0, hx237_1, hx237_2, hx237_3, hx237_4⟩ := at_T47 HR0_2.out x4_1 p237 q237
     cases e237
     replace hx237_0 := zL HB hx237_0; replace hx237_1 := zL HB hx237_1; replace hx237_2 := zL HB hx237_2; replace hx237_3 := zL HB hx237_3; replace hx237_4 := zL HB hx237_4; replace p237 := eq_true p237; replace q237 := eq_true q237
     go_wp2
     go_roundg k1
     case measure => have := HK1.out; omega
     case rel => exact ⟨(wrap64 (x3_1 + ((rd_T47 l0_2 x4_1).f4))), (wrap64 (x4_1 + 1)), (by first | rfl | (simp; done) | (simp [*]; done)), (by first | rfl | (simp; done) | (simp [*]; done)), H', ⟨by have := HK1.out; omega⟩, ⟨zK BK236⟩, ⟨zB⟩⟩
    ·
     rw [if_neg c4] at H
     exact absurd H (by simp)
   ·
    rw [if_neg c3] at H
    have c3b0 : decide (x4_1 < (l0_2.length : Int)) = false := decide_eq_false c3; clear c3; obtain rfl := Option.some.inj H; obtain ⟨hcz6_0, hcz6_1, hcz6_2⟩ := zC3 BK236; obtain ⟨hfz6_0, hfz6_1, hfz6_2⟩ := zZ3 BK236
    go_wp2
    go_ret
    exact ⟨zE, zB⟩
end Go.Proofs.YtndojpcjhkncgaaGreatDoor.Q
end

section
namespace Go.Proofs.YtndojpcjhkncgaaGreatDoor.Q
open Go.RowKit Go.Proofs.YtndojpcjhkncgaaGreatDoorW.PrintWords Go.Proofs.YtndojpcjhkncgaaGreatDoorW.PrintLast Go.Proofs.YtndojpcjhkncgaaGreatDoorW.PrintMore
attribute [local go_sem] max2_int min2_int max_two min_two max_three min_three max_four min_four   -- for this text's walks alone
set_option linter.unusedVariables false
set_option linter.unusedSimpArgs false
def annuitantref36_Total.f (k : Nat) (a0_0 : Int) (a0_1 : Int) (l0_2 : List (S47)) : Option (Int × Int) := (annuitantref36_Valid.f k a0_0 a0_1 l0_2).bind fun t411 => (if t411 = true then ((annuitantref36_sum.f k a0_0 a0_1 l0_2).bind fun t412 => (some (t412, 0))) else (some (0, 2)))
end Go.Proofs.YtndojpcjhkncgaaGreatDoor.Q
end

section
namespace Go.Proofs.YtndojpcjhkncgaaGreatDoor.Q
open Go.RowKit Go.Proofs.YtndojpcjhkncgaaGreatDoorW.PrintWords
set_option linter.unusedVariables false
set_option linter.unusedSimpArgs false
def countB (n : Int) : Bool := decide (1 ≤ n) && decide (n ≤ 1099511627776)
def datedB (n d : Int) : Bool := countB n && (decide (0 ≤ d) && decide (d < 65536))
def orderB (o : S47) : Bool := countB o.f0 && (countB o.f1 && (decide (0 ≤ o.f2) && (decide (o.f2 ≤ 1099511627776) && (decide (-1099511627776 ≤ o.f3) && (decide (o.f3 ≤ o.f2) && (decide (o.f4 = o.f2 - o.f3) && decide (o.f4 ≤ 1099511627776)))))))
def ordersB : Int → Int → List S47 → Bool
  | _, _, [] => true
  | last, tot, o :: l => orderB o && (decide (last < o.f0) && (decide (tot + o.f4 ≤ 1099511627776) && ordersB o.f0 (tot + o.f4) l))
def validB (n d : Int) (l : List S47) : Bool := datedB n d && (decide ((l.length : Int) ≤ 1000) && ordersB 0 0 l)
theorem counts_f (n : Int) : bank_counts.f n = some (countB n) := by
  unfold bank_counts.f countB
  by_cases h : 1 ≤ n
  · rw [if_pos h]; simp [h]
  · rw [if_neg h]; simp [h]
theorem dated_f (n d : Int) : bank_dated.f n d = some (datedB n d) := by
  unfold bank_dated.f datedB
  rw [counts_f]
  simp only [Option.bind_some]
  cases countB n with
  | false => simp
  | true =>
    by_cases h : 0 ≤ d
    · simp [h]
    · simp [h]
theorem orderB_net {o : S47} (h : orderB o = true) : 0 ≤ o.f4 ∧ o.f4 ≤ 1099511627776 ∧ 1 ≤ o.f0 ∧ o.f0 ≤ 1099511627776 := by
  simp only [orderB, countB, Bool.and_eq_true, decide_eq_true_eq] at h
  omega
theorem right_f (o : S47) : bank_right.f o.f0 o.f1 o.f2 o.f3 o.f4 = some (orderB o) := by
  unfold bank_right.f orderB
  rw [counts_f, counts_f]
  simp only [Option.bind_some]
  cases countB o.f0 with
  | false => simp
  | true =>
    cases countB o.f1 with
    | false => simp
    | true =>
      by_cases h2 : 0 ≤ o.f2
      · by_cases h3 : o.f2 ≤ 1099511627776
        · by_cases h4 : -1099511627776 ≤ o.f3
          · by_cases h5 : o.f3 ≤ o.f2
            · rw [w64 (by omega) (by omega)]
              by_cases h6 : o.f4 = o.f2 - o.f3
              · simp [h2, h3, h4, h5, h6]
              · simp [h2, h3, h4, h5, h6]
            · simp [h2, h3, h4, h5]
          · simp [h2, h3, h4]
        · simp [h2, h3]
      · simp [h2]
theorem rdT (L : List S47) (i : Nat) (h : i < L.length) : rd_T47 L (i : Int) = L[i] := by unfold rd_T47; simp [h]
theorem Valid_l0 (L : List S47) (hL : (L.length : Int) ≤ 4611686018427387904) (d : Nat) : ∀ (i : Nat) (last tot : Int), i + d = L.length → 0 ≤ tot → tot ≤ 1099511627776 →
    Ev (fun k => bank_Valid.l0 k last tot L (L.length : Int) (i : Int)) (ordersB last tot (L.drop i)) := by
  induction d with
  | zero =>
    intro i last tot hi h0 h1
    rw [List.drop_eq_nil_of_le (by omega)]
    refine Ev.step (fun k => by rw [bank_Valid.l0]) (Ev.neg (by omega) (Ev.now true))
  | succ d ih =>
    intro i last tot hi h0 h1
    have hlt : i < L.length := by omega
    rw [drop_get L i hlt]
    refine Ev.step (fun k => by rw [bank_Valid.l0]) (Ev.pos (by omega) (Ev.pos (by omega) (Ev.pos (by omega) ?_)))
    rw [rdT L i hlt, right_f]
    refine Ev.const rfl ?_
    simp only [ordersB]
    cases hb : orderB L[i] with
    | false => exact Ev.neg (by simp) (Ev.now false)
    | true =>
      have hn := orderB_net hb
      refine Ev.pos rfl ?_
      rw [w64 (n := tot + L[i].f4) (by omega) (by omega)]
      by_cases h2 : L[i].f0 ≤ last
      · refine Ev.pos h2 ?_
        rw [decide_eq_false (by omega : ¬ last < L[i].f0)]
        exact Ev.now false
      · refine Ev.neg h2 ?_
        rw [decide_eq_true (by omega : last < L[i].f0)]
        by_cases h3 : tot + L[i].f4 ≤ 1099511627776
        · refine Ev.neg (by omega) ?_
          rw [decide_eq_true h3]
          have := ih (i + 1) L[i].f0 (tot + L[i].f4) (by omega) (by omega) h3
          rw [w64 (by omega) (by omega)]
          exact this
        · refine Ev.pos (by omega) ?_
          rw [decide_eq_false h3]
          exact Ev.now false
theorem Valid_ev (n d : Int) (L : List S47) (hL : (L.length : Int) ≤ 4611686018427387904) : Ev (fun k => bank_Valid.f k n d L) (validB n d L) := by
  unfold bank_Valid.f validB
  refine Ev.const (dated_f n d) ?_
  cases datedB n d with
  | false => exact Ev.neg (by simp) (Ev.step (fun k => by rw [bank_Valid.j0]) (Ev.pos rfl (Ev.now false)))
  | true =>
    refine Ev.pos rfl (Ev.step (fun k => by rw [bank_Valid.j0]) ?_)
    by_cases h : (L.length : Int) ≤ 1000
    · refine Ev.neg (by simp; omega) ?_
      have := Valid_l0 L hL L.length 0 0 0 (by omega) (by omega) (by omega)
      simpa [h] using this
    · refine Ev.pos (by simp; omega) ?_
      rw [decide_eq_false h]
      exact Ev.now false
def before (L : List S47) (i : Nat) : Int := if i = 0 then 0 else (L.getD (i - 1) z47).f0
theorem ref_j2 (L : List S47) (n d : Int) (o : S47) (bad : Bool) (tot : Int) (i : Nat) (hi : i < L.length) (hL : (L.length : Int) ≤ 4611686018427387904) (h0 : 0 ≤ tot) (h1 : tot ≤ 1099511627776) (hb : bad = true → orderB o = false) (hb' : bad = false → orderB o = true)
    (ih : orderB o = true → tot + o.f4 ≤ 1099511627776 → Ev (fun k => annuitantref36_Valid.l0 k (tot + o.f4) ((i : Int) + 1) n d L) (ordersB o.f0 (tot + o.f4) (L.drop (i + 1)))) :
    Ev (fun k => annuitantref36_Valid.j2 k tot (i : Int) bad n d L o.f0 o.f1 o.f2 o.f3 o.f4) (ordersB (before L i) tot (o :: L.drop (i + 1))) := by
  refine Ev.step (fun k => by rw [annuitantref36_Valid.j2]) ?_
  cases bad with
  | true =>
    simp only [ordersB]
    rw [hb rfl]
    exact Ev.pos (by trivial) (Ev.now false)
  | false =>
    have hO := hb' rfl
    have hn := orderB_net hO
    simp only [ordersB]
    rw [hO]
    refine Ev.neg (by simp) ?_
    rw [w64 (n := tot + o.f4) (by omega) (by omega)]
    by_cases h3 : tot + o.f4 ≤ 1099511627776
    · refine Ev.neg (by omega) ?_
      have ih := ih hO h3
      rw [w64 (n := (i : Int) + 1) (by omega) (by omega)]
      rw [decide_eq_true h3]
      by_cases hz : i = 0
      · subst hz
        refine Ev.neg (by omega) ?_
        rw [show before L 0 = 0 from rfl, decide_eq_true (by omega : (0 : Int) < o.f0)]
        exact ih
      · refine Ev.pos (by omega) ?_
        rw [w64 (n := (i : Int) - 1) (by omega) (by omega)]
        refine Ev.pos (by omega) (Ev.pos (by omega) ?_)
        have hr : (rd_T47 L ((i : Int) - 1)).f0 = before L i := by
          unfold before rd_T47
          rw [if_neg hz, show ((i : Int) - 1).toNat = i - 1 by omega]
        rw [hr]
        by_cases h2 : o.f0 ≤ before L i
        · refine Ev.pos h2 ?_
          rw [decide_eq_false (by omega : ¬ before L i < o.f0)]
          exact Ev.now false
        · refine Ev.neg h2 ?_
          rw [decide_eq_true (by omega : before L i < o.f0)]
          exact ih
    · refine Ev.pos (by omega) ?_
      rw [decide_eq_false h3]
      simp only [Bool.false_and, Bool.and_false]
      exact Ev.now false
theorem ref_l0 (L : List S47) (n d0 : Int) (hL : (L.length : Int) ≤ 4611686018427387904) (d : Nat) : ∀ (i : Nat) (tot : Int), i + d = L.length → 0 ≤ tot → tot ≤ 1099511627776 →
    Ev (fun k => annuitantref36_Valid.l0 k tot (i : Int) n d0 L) (ordersB (before L i) tot (L.drop i)) := by
  induction d with
  | zero =>
    intro i tot hi h0 h1
    rw [List.drop_eq_nil_of_le (by omega)]
    refine Ev.step (fun k => by rw [annuitantref36_Valid.l0]) (Ev.neg (by omega) (Ev.now true))
  | succ d ih =>
    intro i tot hi h0 h1
    have hlt : i < L.length := by omega
    rw [drop_get L i hlt]
    have hb : before L (i + 1) = L[i].f0 := by unfold before; rw [if_neg (by omega), Nat.add_sub_cancel]; simp [hlt]
    have go : ∀ bad, (bad = true → orderB L[i] = false) → (bad = false → orderB L[i] = true) → Ev (fun k => annuitantref36_Valid.j2 k tot (i : Int) bad n d0 L L[i].f0 L[i].f1 L[i].f2 L[i].f3 L[i].f4) (ordersB (before L i) tot (L[i] :: L.drop (i + 1))) := by
      intro bad h h'
      refine ref_j2 L n d0 L[i] bad tot i hlt hL h0 h1 h h' ?_
      intro hO h3
      have := ih (i + 1) (tot + L[i].f4) (by omega) (by have := orderB_net hO; omega) h3
      rw [hb] at this
      exact this
    refine Ev.step (fun k => by rw [annuitantref36_Valid.l0]) (Ev.pos (by omega) (Ev.pos (by omega) ?_))
    rw [rdT L i hlt]
    have no : ∀ {c : Prop}, (c → orderB L[i] = false) → c → Ev (fun k => annuitantref36_Valid.j2 k tot (i : Int) true n d0 L L[i].f0 L[i].f1 L[i].f2 L[i].f3 L[i].f4) (ordersB (before L i) tot (L[i] :: L.drop (i + 1))) := fun h hc => go true (fun _ => h hc) (fun e => by cases e)
    by_cases c1 : L[i].f0 < 1
    · exact Ev.pos c1 (no (fun _ => by simp [orderB, countB]; omega) c1)
    refine Ev.neg c1 ?_
    by_cases c2 : L[i].f0 > 1099511627776
    · exact Ev.pos c2 (no (fun _ => by simp [orderB, countB]; omega) c2)
    refine Ev.neg c2 ?_
    by_cases c3 : L[i].f1 < 1
    · exact Ev.pos c3 (no (fun _ => by simp [orderB, countB]; omega) c3)
    refine Ev.neg c3 ?_
    by_cases c4 : L[i].f1 > 1099511627776
    · exact Ev.pos c4 (no (fun _ => by simp [orderB, countB]; omega) c4)
    refine Ev.neg c4 ?_
    by_cases c5 : L[i].f2 < 0
    · exact Ev.pos c5 (no (fun _ => by simp [orderB, countB]; omega) c5)
    refine Ev.neg c5 ?_
    by_cases c6 : L[i].f2 > 1099511627776
    · exact Ev.pos c6 (no (fun _ => by simp [orderB, countB]; omega) c6)
    refine Ev.neg c6 ?_
    by_cases c7 : L[i].f3 < -1099511627776
    · exact Ev.pos c7 (no (fun _ => by simp [orderB, countB]; omega) c7)
    refine Ev.neg c7 ?_
    by_cases c8 : L[i].f3 > L[i].f2
    · exact Ev.pos c8 (no (fun _ => by simp [orderB, countB]; omega) c8)
    refine Ev.neg c8 ?_
    rw [w64 (by omega) (by omega)]
    by_cases c9 : L[i].f4 = L[i].f2 - L[i].f3
    · refine Ev.pos c9 (go _ ?_ ?_)
      · intro h
        have h := of_decide_eq_true h
        simp [orderB, countB]
        omega
      · intro h
        have h := of_decide_eq_false h
        simp [orderB, countB]
        omega
    · exact Ev.neg c9 (no (fun _ => by simp [orderB, countB]; omega) c9)
theorem refValid_ev (n d : Int) (L : List S47) (hL : (L.length : Int) ≤ 4611686018427387904) : Ev (fun k => annuitantref36_Valid.f k n d L) (validB n d L) := by
  unfold annuitantref36_Valid.f validB
  have no : datedB n d = false → Ev (fun k => annuitantref36_Valid.j0 k true n d L) (datedB n d && (decide ((L.length : Int) ≤ 1000) && ordersB 0 0 L)) := by
    intro h
    rw [h]
    exact Ev.step (fun k => by rw [annuitantref36_Valid.j0]) (Ev.pos rfl (Ev.now false))
  by_cases c1 : n < 1
  · exact Ev.pos c1 (no (by simp [datedB, countB]; omega))
  refine Ev.neg c1 ?_
  by_cases c2 : n > 1099511627776
  · exact Ev.pos c2 (no (by simp [datedB, countB]; omega))
  refine Ev.neg c2 ?_
  by_cases c3 : d < 0
  · exact Ev.pos c3 (no (by simp [datedB, countB]; omega))
  refine Ev.neg c3 ?_
  by_cases c4 : d ≥ 65536
  · exact Ev.pos c4 (no (by simp [datedB, countB]; omega))
  refine Ev.neg c4 ?_
  rw [show datedB n d = true by simp [datedB, countB]; omega]
  refine Ev.step (fun k => by rw [annuitantref36_Valid.j0]) ?_
  by_cases h : (L.length : Int) ≤ 1000
  · refine Ev.neg (by simp; omega) ?_
    have := ref_l0 L n d hL L.length 0 0 (by omega) (by omega) (by omega)
    rw [show before L 0 = 0 from rfl] at this
    simpa [h] using this
  · refine Ev.pos (by simp; omega) ?_
    rw [decide_eq_false h]
    exact Ev.now false
def backB (o : S49) : Bool := countB o.f0 && (decide (1 ≤ o.f1) && decide (o.f1 ≤ 9))
def backsB : Int → List S49 → Bool
  | _, [] => true
  | last, o :: l => decide (last < o.f0) && (backB o && backsB o.f0 l)
def rightB (n d : Int) (l : List S49) : Bool := backsB 0 l && (datedB n d && decide ((l.length : Int) ≤ 1000))
theorem rdR (L : List S49) (i : Nat) (h : i < L.length) : rd_T49 L (i : Int) = L[i] := by unfold rd_T49; simp [h]
theorem rdP (L : List S78) (i : Nat) (h : i < L.length) : rd_T78 L (i : Int) = L[i] := by unfold rd_T78; simp [h]
theorem Right_l0 (L : List S49) (n dd : Int) (hL : (L.length : Int) ≤ 4611686018427387904) (d : Nat) : ∀ (i : Nat) (last : Int), i + d = L.length →
    Ev (fun k => bank_Right.l0 k last L (L.length : Int) (i : Int) n dd L) (backsB last (L.drop i) && (datedB n dd && decide ((L.length : Int) ≤ 1000))) := by
  induction d with
  | zero =>
    intro i last hi
    rw [List.drop_eq_nil_of_le (by omega)]
    refine Ev.step (fun k => by rw [bank_Right.l0]) (Ev.neg (by omega) (Ev.const (dated_f n dd) ?_))
    cases datedB n dd with
    | false => exact Ev.neg (by simp) (Ev.now false)
    | true => exact Ev.pos rfl (Ev.ret (by simp [backsB]))
  | succ d ih =>
    intro i last hi
    have hlt : i < L.length := by omega
    rw [drop_get L i hlt]
    refine Ev.step (fun k => by rw [bank_Right.l0]) (Ev.pos (by omega) (Ev.pos (by omega) (Ev.pos (by omega) ?_)))
    rw [rdR L i hlt]
    simp only [backsB]
    by_cases h1 : L[i].f0 ≤ last
    · refine Ev.pos h1 ?_
      rw [decide_eq_false (by omega : ¬ last < L[i].f0)]
      exact Ev.now false
    · refine Ev.neg h1 (Ev.const (counts_f _) ?_)
      rw [decide_eq_true (by omega : last < L[i].f0)]
      unfold backB
      cases countB L[i].f0 with
      | false => exact Ev.neg (by simp) (Ev.now false)
      | true =>
        refine Ev.pos (by trivial) ?_
        by_cases h2 : L[i].f1 < 1
        · refine Ev.pos h2 ?_
          rw [decide_eq_false (by omega : ¬ 1 ≤ L[i].f1)]
          exact Ev.now false
        · refine Ev.neg h2 ?_
          by_cases h3 : L[i].f1 > 9
          · refine Ev.pos h3 ?_
            rw [decide_eq_false (by omega : ¬ L[i].f1 ≤ 9)]
            simp only [Bool.and_false, Bool.false_and, Bool.true_and]
            exact Ev.now false
          · refine Ev.neg h3 ?_
            rw [decide_eq_true (by omega : 1 ≤ L[i].f1), decide_eq_true (by omega : L[i].f1 ≤ 9), w64 (by omega) (by omega)]
            simp only [Bool.true_and]
            exact ih (i + 1) L[i].f0 (by omega)
theorem Right_ev (n d : Int) (L : List S49) (hL : (L.length : Int) ≤ 4611686018427387904) : Ev (fun k => bank_Right.f k n d L) (rightB n d L) := by
  unfold bank_Right.f rightB
  exact Right_l0 L n d hL L.length 0 0 (by omega)
def asRef (o : S49) : S78 := ⟨o.f0, o.f1⟩
def beforeR (L : List S49) (i : Nat) : Int := if i = 0 then 0 else (L.getD (i - 1) z49).f0
theorem refR_l0 (L : List S49) (n d0 : Int) (hL : (L.length : Int) ≤ 4611686018427387904) (d : Nat) : ∀ (i : Nat), i + d = L.length →
    Ev (fun k => annuitantref36_Right.l0 k (i : Int) n d0 (L.map asRef)) (backsB (beforeR L i) (L.drop i)) := by
  have hl : (L.map asRef).length = L.length := List.length_map ..
  induction d with
  | zero =>
    intro i hi
    rw [List.drop_eq_nil_of_le (by omega)]
    refine Ev.step (fun k => by rw [annuitantref36_Right.l0]) (Ev.neg (by omega) (Ev.now true))
  | succ d ih =>
    intro i hi
    have hlt : i < L.length := by omega
    rw [drop_get L i hlt]
    have hb : beforeR L (i + 1) = L[i].f0 := by unfold beforeR; rw [if_neg (by omega), Nat.add_sub_cancel]; simp [hlt]
    refine Ev.step (fun k => by rw [annuitantref36_Right.l0]) (Ev.pos (by omega) (Ev.pos (by omega) ?_))
    rw [rdP (L.map asRef) i (by omega), List.getElem_map]
    simp only [asRef, backsB, backB, countB]
    by_cases c1 : L[i].f0 < 1
    · refine Ev.pos c1 (Ev.ret ?_)
      rw [decide_eq_false (by omega : ¬ 1 ≤ L[i].f0)]; simp
    refine Ev.neg c1 ?_
    by_cases c2 : L[i].f0 > 1099511627776
    · refine Ev.pos c2 (Ev.ret ?_)
      rw [decide_eq_false (by omega : ¬ L[i].f0 ≤ 1099511627776)]; simp
    refine Ev.neg c2 ?_
    by_cases c3 : L[i].f1 < 1
    · refine Ev.pos c3 (Ev.ret ?_)
      rw [decide_eq_false (by omega : ¬ 1 ≤ L[i].f1)]; simp
    refine Ev.neg c3 ?_
    by_cases c4 : L[i].f1 > 9
    · refine Ev.pos c4 (Ev.ret ?_)
      rw [decide_eq_false (by omega : ¬ L[i].f1 ≤ 9)]; simp
    refine Ev.neg c4 ?_
    rw [decide_eq_true (by omega : 1 ≤ L[i].f0), decide_eq_true (by omega : L[i].f0 ≤ 1099511627776), decide_eq_true (by omega : 1 ≤ L[i].f1), decide_eq_true (by omega : L[i].f1 ≤ 9)]
    have ih := ih (i + 1) (by omega)
    rw [hb] at ih
    rw [w64 (n := (i : Int) + 1) (by omega) (by omega)]
    simp only [Bool.true_and]
    by_cases hz : i = 0
    · subst hz
      refine Ev.neg (by omega) ?_
      rw [show beforeR L 0 = 0 from rfl, decide_eq_true (by omega : (0 : Int) < L[0].f0)]
      simpa using ih
    · refine Ev.pos (by omega) ?_
      rw [w64 (n := (i : Int) - 1) (by omega) (by omega)]
      refine Ev.pos (by omega) (Ev.pos (by omega) ?_)
      have hr : (rd_T78 (L.map asRef) ((i : Int) - 1)).f0 = beforeR L i := by
        unfold beforeR rd_T78
        rw [if_neg hz, show ((i : Int) - 1).toNat = i - 1 by omega]
        have : i - 1 < L.length := by omega
        simp [this, asRef]
      rw [hr]
      by_cases h2 : L[i].f0 ≤ beforeR L i
      · refine Ev.pos h2 ?_
        rw [decide_eq_false (by omega : ¬ beforeR L i < L[i].f0)]
        exact Ev.now false
      · refine Ev.neg h2 ?_
        rw [decide_eq_true (by omega : beforeR L i < L[i].f0)]
        simpa using ih
theorem refRight_ev (n d : Int) (L : List S49) (hL : (L.length : Int) ≤ 4611686018427387904) : Ev (fun k => annuitantref36_Right.f k n d (L.map asRef)) (rightB n d L) := by
  have hl : (L.map asRef).length = L.length := List.length_map ..
  unfold annuitantref36_Right.f rightB
  have no : datedB n d = false → Ev (fun k => annuitantref36_Right.j0 k true n d (L.map asRef)) (backsB 0 L && (datedB n d && decide ((L.length : Int) ≤ 1000))) := by
    intro h
    rw [h]
    exact Ev.step (fun k => by rw [annuitantref36_Right.j0]) (Ev.pos rfl (Ev.ret (by simp)))
  by_cases c1 : n < 1
  · exact Ev.pos c1 (no (by simp [datedB, countB]; omega))
  refine Ev.neg c1 ?_
  by_cases c2 : n > 1099511627776
  · exact Ev.pos c2 (no (by simp [datedB, countB]; omega))
  refine Ev.neg c2 ?_
  by_cases c3 : d < 0
  · exact Ev.pos c3 (no (by simp [datedB, countB]; omega))
  refine Ev.neg c3 ?_
  by_cases c4 : d ≥ 65536
  · exact Ev.pos c4 (no (by simp [datedB, countB]; omega))
  refine Ev.neg c4 ?_
  rw [show datedB n d = true by simp [datedB, countB]; omega]
  refine Ev.step (fun k => by rw [annuitantref36_Right.j0]) ?_
  by_cases h : (L.length : Int) ≤ 1000
  · refine Ev.neg (by rw [hl]; simp; omega) ?_
    have := refR_l0 L n d hL L.length 0 (by omega)
    rw [show beforeR L 0 = 0 from rfl] at this
    simpa [h] using this
  · refine Ev.pos (by rw [hl]; simp; omega) ?_
    rw [decide_eq_false h]
    exact Ev.ret (by simp)
def netSum (l : List S47) : Int := (l.map fun o => o.f4).sum
theorem netSum_le : ∀ (l : List S47) (last tot : Int), 0 ≤ tot → tot ≤ 1099511627776 → ordersB last tot l = true → 0 ≤ netSum l ∧ tot + netSum l ≤ 1099511627776
  | [], last, tot, h0, h1, _ => by simp [netSum]; omega
  | o :: l, last, tot, h0, h1, h => by
    simp only [ordersB, Bool.and_eq_true, decide_eq_true_eq] at h
    obtain ⟨ho, _, ht, hr⟩ := h
    have hn := orderB_net ho
    have := netSum_le l o.f0 (tot + o.f4) (by omega) ht hr
    unfold netSum at this ⊢
    simp only [List.map_cons, List.sum_cons]
    omega
theorem total_l0 (L : List S47) (hL : (L.length : Int) ≤ 4611686018427387904) (d : Nat) : ∀ (i : Nat) (last tot : Int), i + d = L.length → 0 ≤ tot → tot ≤ 1099511627776 → ordersB last tot (L.drop i) = true →
    Ev (fun k => bank_total.l0 k tot L (L.length : Int) (i : Int)) (tot + netSum (L.drop i)) ∧ ∀ n dd, Ev (fun k => annuitantref36_sum.l0 k tot (i : Int) n dd L) (tot + netSum (L.drop i)) := by
  induction d with
  | zero =>
    intro i last tot hi h0 h1 hv
    rw [List.drop_eq_nil_of_le (by omega)]
    exact ⟨Ev.step (fun k => by rw [bank_total.l0]) (Ev.neg (by omega) (Ev.ret (by simp [netSum]))), fun n dd => Ev.step (fun k => by rw [annuitantref36_sum.l0]) (Ev.neg (by omega) (Ev.ret (by simp [netSum])))⟩
  | succ d ih =>
    intro i last tot hi h0 h1 hv
    have hlt : i < L.length := by omega
    rw [drop_get L i hlt] at hv ⊢
    simp only [ordersB, Bool.and_eq_true, decide_eq_true_eq] at hv
    obtain ⟨ho, _, ht, hr⟩ := hv
    have hn := orderB_net ho
    obtain ⟨h2, h3⟩ := ih (i + 1) L[i].f0 (tot + L[i].f4) (by omega) (by omega) ht hr
    have e : tot + netSum (L[i] :: L.drop (i + 1)) = tot + L[i].f4 + netSum (L.drop (i + 1)) := by unfold netSum; rw [List.map_cons, List.sum_cons]; omega
    rw [e]
    constructor
    · refine Ev.step (fun k => by rw [bank_total.l0]) (Ev.pos (by omega) (Ev.pos (by omega) (Ev.pos (by omega) ?_)))
      rw [rdT L i hlt, w64 (n := tot + L[i].f4) (by omega) (by omega), w64 (by omega) (by omega)]
      exact h2
    · intro n dd
      refine Ev.step (fun k => by rw [annuitantref36_sum.l0]) (Ev.pos (by omega) (Ev.pos (by omega) ?_))
      rw [rdT L i hlt, w64 (n := tot + L[i].f4) (by omega) (by omega), w64 (by omega) (by omega)]
      exact h3 n dd
theorem valid_orders {n d : Int} {L : List S47} (h : validB n d L = true) : datedB n d = true ∧ (L.length : Int) ≤ 1000 ∧ ordersB 0 0 L = true := by
  simp only [validB, Bool.and_eq_true, decide_eq_true_eq] at h
  exact h
theorem total_ev (n d : Int) (L : List S47) (h : validB n d L = true) : Ev (fun k => bank_total.f k n d L) (netSum L) ∧ Ev (fun k => annuitantref36_sum.f k n d L) (netSum L) := by
  obtain ⟨_, h1, h2⟩ := valid_orders h
  obtain ⟨h3, h4⟩ := total_l0 L (by omega) L.length 0 0 0 (by omega) (by omega) (by omega) h2
  exact ⟨(Ev.eq h3 (by simp)), (Ev.eq (h4 n d) (by simp))⟩
def totalS (n d : Int) (L : List S47) : Int × Int := if validB n d L = true then (netSum L, 0) else (0, 2)
theorem Total_ev (n d : Int) (L : List S47) (hL : (L.length : Int) ≤ 4611686018427387904) : Ev (fun k => bank_Total.f k n d L) (totalS n d L) ∧ Ev (fun k => annuitantref36_Total.f k n d L) (totalS n d L) := by
  unfold bank_Total.f annuitantref36_Total.f totalS
  constructor
  · refine Ev.bind (Valid_ev n d L hL) ?_
    cases h : validB n d L with
    | false => exact Ev.neg (by simp) (Ev.now (0, 2))
    | true => exact Ev.pos rfl (Ev.bind (total_ev n d L h).1 (Ev.now (netSum L, 0)))
  · refine Ev.bind (refValid_ev n d L hL) ?_
    cases h : validB n d L with
    | false => exact Ev.neg (by simp) (Ev.now (0, 2))
    | true => exact Ev.pos rfl (Ev.bind (total_ev n d L h).2 (Ev.now (netSum L, 0)))
end Go.Proofs.YtndojpcjhkncgaaGreatDoor.Q
end

section
namespace Go.Proofs.YtndojpcjhkncgaaGreatDoor.Q
open Go Go.RowKit
set_option linter.unusedVariables false
set_option linter.unusedSimpArgs false
structure GG (w : World) : Prop where
  pow : Lib.TabIs Tryz.prog w "internal/strconv.uint64pow10" .u64 Lib.pow10Tab
  low : Lib.TabIs Tryz.prog w "math/bits.deBruijn64tab" .u8 (Lib.deBruijn64tab.map fun (n : Nat) => (n : Int))
  syn : ∃ ev, w.cell? ⟨2, 0, none⟩ = some ev ∧ (ev = .nilIface ∨ ∃ te pe, ev = .iface te pe)
  rng : ∃ ev, w.cell? ⟨3, 0, none⟩ = some ev ∧ (ev = .nilIface ∨ ∃ te pe, ev = .iface te pe)
  max : ∃ m, w.cell? ⟨1, 0, none⟩ = some (.int .i64 m)
theorem named_pow : Tryz.prog.globalNamed "internal/strconv.uint64pow10" = some 0 := by kernel_rfl
theorem named_low : Tryz.prog.globalNamed "math/bits.deBruijn64tab" = some 7 := by kernel_rfl
theorem gcell {w w1 : World} {a : Addr} {v : Value} (h : w.cell? a = some v) (hb : Below w.heap.size w w1) : w1.cell? a = some v := (hb.cell (World.block_lt_of_cell? w a h)).trans h
theorem GG.below {w w1 : World} (h : GG w) (hb : Below w.heap.size w w1) : GG w1 where
  pow := Joins.tab_stays named_pow h.pow hb (Nat.le_refl _)
  low := Joins.tab_stays named_low h.low hb (Nat.le_refl _)
  syn := let ⟨ev, h1, h2⟩ := h.syn; ⟨ev, gcell h1 hb, h2⟩
  rng := let ⟨ev, h1, h2⟩ := h.rng; ⟨ev, gcell h1 hb, h2⟩
  max := let ⟨m, h1⟩ := h.max; ⟨m, gcell h1 hb⟩
end Go.Proofs.YtndojpcjhkncgaaGreatDoor.Q
end

section
namespace Go.Proofs.YtndojpcjhkncgaaGreatDoor.Q
open Go Go.RowKit
set_option linter.unusedVariables false
set_option linter.unusedSimpArgs false
theorem sizeBuilder : (Tryz.prog.info? 100).map (·.size) = some 2 := by kernel_rfl
theorem liesBuilder : liesAt Tryz.prog Tryz.prog.depth 100 (2 / Tryz.prog.cellsOf 100) 0 100 1 = true := by kernel_rfl
theorem infoByte : (Tryz.prog.info? 5).map (fun i => (i.zero, i.size, i.bytes)) = some (some (.int .u8 0), 1, 1) := by kernel_rfl
set_option maxRecDepth 100000 in
theorem copyCheck_fresh (b : Nat) (w : World) (h0 : w.cell? ⟨b, 0, none⟩ = some (.pointer none)) (hsh : w.shape? b = some (100, 2)) (hfz : w.frozen? ⟨b, 0, none⟩ = false) :
    Calls Tryz.prog 72 #[.pointer (some ⟨b, 0, none⟩)] w fun e w' => e = .returned (.tuple #[]) ∧ w' = w.setCell ⟨b, 0, none⟩ (.pointer (some ⟨b, 0, none⟩)) := by
  obtain ⟨j, hj, hjs⟩ := Option.map_eq_some_iff.1 sizeBuilder
  go_enter Tryz.func72, Tryz.ntmps72
  go_wp2
  rw [Lib.run_to_unsafe w ⟨b, 0, none⟩ Tryz.underlying98 Tryz.underlying123 hj (by rw [hjs]; decide) hsh (Nat.zero_lt_succ 1)]
  simp only [Result.andThen]
  rw [Oper.upon_value]
  go_wp2
  rw [run_callFunc_extern Tryz.func81 (by kernel_rfl) (by kernel_rfl) (by kernel_rfl) (e := Extern.AbiNoEscape.same) (by kernel_rfl)]
  rw [Lib.run_noEscape]
  simp only [Result.andThen]
  rw [Oper.upon_value]
  go_wp2
  rw [Lib.run_from_unsafe w ⟨b, 0, none⟩ Tryz.underlying123 Tryz.underlying98 hj hsh liesBuilder]
  simp only [Result.andThen]
  rw [Oper.upon_value]
  go_wp2
  go_end0
  exact ⟨rfl, rfl⟩
set_option maxRecDepth 100000 in
theorem copyCheck_used (b : Nat) (w : World) (h0 : w.cell? ⟨b, 0, none⟩ = some (.pointer (some ⟨b, 0, none⟩))) :
    Calls Tryz.prog 72 #[.pointer (some ⟨b, 0, none⟩)] w fun e w' => e = .returned (.tuple #[]) ∧ w' = w := by
  obtain ⟨j, hj, _⟩ := Option.map_eq_some_iff.1 sizeBuilder
  go_enter Tryz.func72, Tryz.ntmps72
  go_wp2
  rw [Lib.run_neq_ptr_same w _ Tryz.underlying98 hj]
  go_wp2
  go_end0
  exact ⟨rfl, rfl⟩
theorem copyCheck_k (B b : Nat) (bs : List Value) (w : World) (h : Lib.IsBuilderF 100 5 B b bs w) :
    Calls Tryz.prog 72 #[.pointer (some ⟨b, 0, none⟩)] w fun e w' => e = .returned (.tuple #[]) ∧ (Lib.BuilderAtF 100 5 B b (.pointer (some ⟨b, 0, none⟩)) bs w' ∧ Below B w w' ∧ Lib.OthersKept 5 (some b) w w') := by
  rcases h with h | h
  · refine (copyCheck_fresh b w h.cell0 h.shape h.frozen0).mono ?_
    rintro e w' ⟨rfl, rfl⟩
    exact ⟨rfl, h.used _, (Below.refl B w).setCell (p := ⟨b, 0, none⟩) h.1 _, (Lib.OthersKept.refl _ _ w).setCell ⟨b, 0, none⟩ rfl _⟩
  · refine (copyCheck_used b w h.cell0).mono ?_
    rintro e w' ⟨rfl, rfl⟩
    exact ⟨rfl, h, Below.refl B _, Lib.OthersKept.refl _ _ _⟩
theorem neB : (100 : Nat) ≠ 5 := by decide
set_option maxHeartbeats 1000000 in
set_option maxRecDepth 100000 in
theorem WriteByte_k (B b : Nat) (bs : List Value) (c : Int) (w : World) (h : Lib.IsBuilderF 100 5 B b bs w) (hlen : bs.length + 1 ≤ 140737488355328) (hBw : B ≤ w.heap.size) :
    Calls Tryz.prog 61 #[.pointer (some ⟨b, 0, none⟩), .int .u8 c] w fun e w' => e = .returned .nilIface ∧ (Lib.BuilderAtF 100 5 B b (.pointer (some ⟨b, 0, none⟩)) (bs ++ [.int .u8 c]) w' ∧ Below B w w' ∧ Lib.OthersKept 5 (some b) w w') := by
  obtain ⟨i0, hi, hz0, hz1, hz2⟩ := info_parts infoByte
  have hCC := Lib.hid (copyCheck_k B b bs w h)
  clear h
  go_enter Tryz.func61, Tryz.ntmps61
  go_wp2_with (go_at_call 72; refine hCC.out.mono ?_)
  rintro e w1 ⟨rfl, h1, hb1, hk1⟩
  obtain ⟨hB, v, hbk, hown, hne⟩ := h1
  have c0 : w1.cell? ⟨b, 0, none⟩ = some (.pointer (some ⟨b, 0, none⟩)) := by rw [Lib.cell_of_heap hbk]; rfl
  have c1 : w1.cell? ⟨b, 1, none⟩ = some v := by rw [Lib.cell_of_heap hbk]; rfl
  go_wp2_with (at_builtin; refine wpList_append_ownF _ rfl _ _ 53 rfl B 5 i0 (.int .u8 0) 1 1 Tryz.underlying53 hi hz0 hz1 hz2 rfl (by decide) _ _ _ rfl (hown.alloc _) ⟨w1.heap.size, 0, none⟩ 1 1 [.int .u8 c] rfl rfl ?c1 ?c2 ?c3 ?c4 ?c5 ?_)
  case c1 =>
    intro j u hj
    match j, hj with
    | 0, hj => simp at hj; subst hj; simp [Addr.add]
  case c2 => intro u hu; simp at hu; subst hu; rfl
  case c3 => unfold maxLen; omega
  case c4 => omega
  case c5 => have := hb1.size; simp; omega
  intro v' w2 hown' hgrow _
  have hlt : b < w1.heap.size := by
    rcases Nat.lt_or_ge b w1.heap.size with h' | h'
    · exact h'
    · simp [Array.getElem?_eq_none h'] at hbk
  have hb2 : w2.heap[b]? = some (.cells #[.pointer (some ⟨b, 0, none⟩), v] 100 (0, 0)) := by
    rw [hgrow.block b (by simp; omega) (fun e => hne e.symm), Lib.alloc_old w1 _ b hlt]
    exact hbk
  have d0 : w2.cell? ⟨b, 0, none⟩ = some (.pointer (some ⟨b, 0, none⟩)) := by rw [Lib.cell_of_heap hb2]; rfl
  have d1 : w2.cell? ⟨b, 1, none⟩ = some v := by rw [Lib.cell_of_heap hb2]; rfl
  have f1 : w2.frozen? ⟨b, 1, none⟩ = false := Lib.frozen_of_heap hb2 1
  obtain ⟨g, cap, rfl⟩ : ∃ g cap, v' = .slice (some ⟨g, 0, none⟩) (bs.length + 1) cap := by
    rcases hown'.2 with ⟨_, h0⟩ | ⟨g, cap, cur, fz, hv, _⟩
    · omega
    · exact ⟨g, cap, hv⟩
  go_wp2
  go_ret
  refine ⟨rfl, ?_, ?_, ((hk1.alloc _).grown hgrow (Lib.ownsRowF_kind (hown.alloc _))).setCell ⟨b, 1, none⟩ rfl _⟩
  · exact Lib.BuilderAtF.put (T := 100) (e := 5) hB hb2 (bs' := bs ++ [.int .u8 c]) (by simpa using hown') neB
  · exact ((hb1.alloc (by have := hb1.size; omega) _).grown hgrow (by have := hb1.size; simp; omega) (fun k hk => (hown.lt k hk).1)).setCell (p := ⟨b, 1, none⟩) hB _
set_option maxHeartbeats 1000000 in
set_option maxRecDepth 100000 in
theorem WriteString_k (B b : Nat) (bs : List Value) (s : ByteArray) (w : World) (h : Lib.IsBuilderF 100 5 B b bs w) (hlen : bs.length + s.size ≤ 140737488355328) (hBw : B ≤ w.heap.size) :
    Calls Tryz.prog 60 #[.pointer (some ⟨b, 0, none⟩), .string s] w fun e w' => e = .returned (.tuple #[.int .i64 s.size, .nilIface]) ∧ (Lib.BuilderAtF 100 5 B b (.pointer (some ⟨b, 0, none⟩)) (bs ++ Lib.strCells s) w' ∧ Below B w w' ∧ Lib.OthersKept 5 (some b) w w') := by
  obtain ⟨i0, hi, hz0, hz1, hz2⟩ := info_parts infoByte
  have hCC := Lib.hid (copyCheck_k B b bs w h)
  clear h
  go_enter Tryz.func60, Tryz.ntmps60
  go_wp2_with (go_at_call 72; refine hCC.out.mono ?_)
  rintro e w1 ⟨rfl, h1, hb1, hk1⟩
  obtain ⟨hB, v, hbk, hown, hne⟩ := h1
  have c0 : w1.cell? ⟨b, 0, none⟩ = some (.pointer (some ⟨b, 0, none⟩)) := by rw [Lib.cell_of_heap hbk]; rfl
  have c1 : w1.cell? ⟨b, 1, none⟩ = some v := by rw [Lib.cell_of_heap hbk]; rfl
  go_wp2_with (at_builtin; refine Lib.wpList_append_own_stringF _ rfl _ _ 53 9 rfl B 5 i0 Tryz.underlying53 Tryz.underlying9 hi hz0 hz1 hz2 _ _ _ rfl hown s rfl ?c3 ?c4 ?c5 ?_)
  case c3 => unfold maxLen; omega
  case c4 => omega
  case c5 => have := hb1.size; omega
  intro v' w2 hown' hgrow _
  have hlt : b < w1.heap.size := by
    rcases Nat.lt_or_ge b w1.heap.size with h' | h'
    · exact h'
    · simp [Array.getElem?_eq_none h'] at hbk
  have hb2 : w2.heap[b]? = some (.cells #[.pointer (some ⟨b, 0, none⟩), v] 100 (0, 0)) := by
    rw [hgrow.block b hlt (fun e => hne e.symm)]
    exact hbk
  have d0 : w2.cell? ⟨b, 0, none⟩ = some (.pointer (some ⟨b, 0, none⟩)) := by rw [Lib.cell_of_heap hb2]; rfl
  have d1 : w2.cell? ⟨b, 1, none⟩ = some v := by rw [Lib.cell_of_heap hb2]; rfl
  have f1 : w2.frozen? ⟨b, 1, none⟩ = false := Lib.frozen_of_heap hb2 1
  obtain ⟨ao, n', cap, rfl⟩ : ∃ ao n' cap, v' = .slice ao n' cap := by
    rcases hown'.2 with ⟨hv, _⟩ | ⟨g, cap, cur, fz, hv, _⟩
    · exact ⟨_, _, _, hv⟩
    · exact ⟨_, _, _, hv⟩
  go_wp2
  go_ret2
  refine ⟨rfl, ?_, ?_, (hk1.grown hgrow (Lib.ownsRowF_kind hown)).setCell ⟨b, 1, none⟩ rfl _⟩
  · exact Lib.BuilderAtF.put (T := 100) (e := 5) hB hb2 (bs' := bs ++ Lib.strCells s) (by simpa [Lib.strCells_length] using hown') neB
  · exact (hb1.grown hgrow (by have := hb1.size; omega) (fun k hk => (hown.lt k hk).1)).setCell (p := ⟨b, 1, none⟩) hB _
end Go.Proofs.YtndojpcjhkncgaaGreatDoor.Q
end

section
namespace Go.Proofs.YtndojpcjhkncgaaGreatDoor.Q
open Go Go.RowKit
set_option linter.unusedVariables false
set_option linter.unusedSimpArgs false
def dig (n : Nat) : UInt8 := ([48, 49, 50, 51, 52, 53, 54, 55, 56, 57, 97, 98, 99, 100, 101, 102] : List UInt8).getD n 0
def hexL (n : Nat) : List UInt8 := if n < 16 then [dig n] else hexL (n / 16) ++ [dig (n % 16)]
termination_by n
def hexA (l : List UInt8) : Array Value := (List.replicate (65 - l.length) (Value.int .u8 0) ++ l.map fun b => Value.int .u8 b.toNat).toArray
theorem digs_at (n : Nat) (hn : n < 16) : ∀ h, ((⟨#[48, 49, 50, 51, 52, 53, 54, 55, 56, 57, 97, 98, 99, 100, 101, 102, 103, 104, 105, 106, 107, 108, 109, 110, 111, 112, 113, 114, 115, 116, 117, 118, 119, 120, 121, 122]⟩ : ByteArray)[n]'h) = dig n := by
  intro h
  match n, hn with
  | 0, _ => rfl
  | 1, _ => rfl
  | 2, _ => rfl
  | 3, _ => rfl
  | 4, _ => rfl
  | 5, _ => rfl
  | 6, _ => rfl
  | 7, _ => rfl
  | 8, _ => rfl
  | 9, _ => rfl
  | 10, _ => rfl
  | 11, _ => rfl
  | 12, _ => rfl
  | 13, _ => rfl
  | 14, _ => rfl
  | 15, _ => rfl
  | n + 16, h => omega
theorem hexA_set (l : List UInt8) (j : Nat) (d : UInt8) (hj : j + l.length = 65) (h1 : 1 ≤ j) : (hexA l).setIfInBounds (j - 1) (Value.int .u8 (d.toNat : Int)) = hexA (d :: l) := by
  obtain ⟨m, rfl⟩ : ∃ m, j = m + 1 := ⟨j - 1, by omega⟩
  unfold hexA
  rw [List.setIfInBounds_toArray, show 65 - l.length = m + 1 by omega, show 65 - (d :: l).length = m by simp; omega, Nat.add_sub_cancel, List.replicate_succ', List.append_assoc, List.set_append_right _ _ (by simp)]
  simp
theorem hexA_size (l : List UInt8) (h : l.length ≤ 65) : (hexA l).size = 65 := by simp [hexA]; omega
theorem hexA_cell (l : List UInt8) (i : Nat) (h : l.length ≤ 65) (hi : i < l.length) : (hexA l)[65 - l.length + i]? = some (.int .u8 ((l.map fun b => (b.toNat : Int)).getD i 0)) := by
  simp [hexA, List.getElem?_append, hi]
theorem and_15 (v : Nat) (h : v < 4294967296) : Go.bits .and .u64 (v : Int) 15 = ((v % 16 : Nat) : Int) := by
  have := bits_and_u64_nat v 15 (by omega) (by omega)
  rw [show ((15 : Nat) : Int) = 15 from rfl] at this
  rw [this, Nat.and_two_pow_sub_one_eq_mod v 4]
theorem hexL_small (v : Nat) (h : v < 16) : hexL v = [dig v] := by rw [hexL, if_pos h]
theorem hexL_big (v : Nat) (h : 16 ≤ v) : hexL v = hexL (v / 16) ++ [dig (v % 16)] := by rw [hexL, if_neg (by omega)]
theorem hexL_step (u v : Nat) (l : List UInt8) (h : hexL u = hexL v ++ l) (h16 : 16 ≤ v) : hexL u = hexL (v / 16) ++ (dig (v % 16) :: l) := by rw [h, hexL_big v h16]; simp
theorem hexL_end (u v : Nat) (l : List UInt8) (h : hexL u = hexL v ++ l) (h16 : v < 16) : hexL u = dig v :: l := by rw [h, hexL_small v h16]; rfl
theorem hexL_length (k : Nat) : ∀ u, u < 16 ^ (k + 1) → 1 ≤ (hexL u).length ∧ (hexL u).length ≤ k + 1 := by
  induction k with
  | zero => intro u hu; rw [hexL_small u (by simpa using hu)]; simp
  | succ k ih =>
    intro u hu
    by_cases h : u < 16
    · rw [hexL_small u h]; simp
    · rw [hexL_big u (by omega)]
      have := ih (u / 16) (by rw [Nat.div_lt_iff_lt_mul (by omega), ← Nat.pow_succ]; exact hu)
      simp; omega
end Go.Proofs.YtndojpcjhkncgaaGreatDoor.Q
end
