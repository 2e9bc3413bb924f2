/- Part 3 of a proof: the texts QFref36Match, SMatch, SMB, HMap, QE45, QFlaw36two, GG, HBuild, HDig, Shelf, HHex, HLine, HLines, QFbankend, HWrite, put together by a program of this repo. -/
import Derived.Maps.OwnSet
import Derived.Maps.OwnOps
import Derived.Maps.Views
import Derived.Test.YtndojpcjhkncgaaDoorProg
import Derived.Lib.SmallJoins
import Derived.Lib.ItoaNum
import Derived.Lib.TrailingZeros
import Derived.KernelRfl
import Derived.WalkKit
import Derived.OwnWalk
import Derived.Lib.Hide
import Derived.Lib.OthersKept
import Derived.Lib.FrozenHead
import Derived.Lib.FrozenHead2
import Derived.Shelf.Strings.BuilderK
import Derived.Laws.BytesArg
import Derived.Lib.LazyBuf
import Derived.Shelf.Strings.Builder1
import Derived.Shelf.Strings.Builder2
import Derived.Shelf.Strings.BuilderF
import Derived.Shelf.Strings.Builder2Cap
import Derived.Shelf.Strconv.Itoa0
import Derived.Shelf.Strconv.Itoa1
import Derived.Shelf.LaysM
import Derived.Shelf.Strconv.Itoa2
import Derived.Shelf.Strconv.Itoa3
import Derived.Shelf.Strings.Prefix
import Derived.Shelf.Bits.Mul64
import Derived.Shelf.Strings.Repeat
import Derived.Shelf.Strings.BuilderCap
import Derived.Outline
import Derived.WalkLawsBesides
import Derived.WalkSpells
import Derived.Laws.BytesString
import Derived.Below
import Derived.Lib.AppendIntMem
import Derived.Test.YtndojpcjhkncgaaDoorVMMatch1
import Derived.Handy
import Derived.Deep.RegionHeld3
import Derived.Test.YtndojpcjhkncgaaDoorMMatch1
import Derived.Test.YtndojpcjhkncgaaDoorMMatch2

section
namespace Go.Proofs.YtndojpcjhkncgaaDoor.Q
open Go.RowKit Go.Proofs.YtndojpcjhkncgaaDoorW.PrintWords Go.Proofs.YtndojpcjhkncgaaDoorW.PrintLast Go.Proofs.YtndojpcjhkncgaaDoorW.PrintMore
attribute [local go_sem] max2_int min2_int max_two min_two max_three min_three max_four min_four   -- for this text's walks alone
set_option linter.unusedVariables false
set_option linter.unusedSimpArgs false

/-! ### annuitantref36_Match: function 24 -/
mutual
def annuitantref36_Match.j0 : Nat → Bool → Int → Int → List (S45) → Int → Int → List (S52) → Option ((List (S45)) × Int)
 | 0, _, _, _, _, _, _, _ => none
 | k + 1, x16, x240000, x240001, x240002, x241000, x241001, x241002 => if x16 = true then (some (([] : List (S45)), 2)) else (if x240000 = x241000 then (annuitantref36_Match.j1 k (decide (x241001 < x240001)) x240000 x240001 x240002 x241000 x241001 x241002) else (annuitantref36_Match.j1 k true x240000 x240001 x240002 x241000 x241001 x241002))
def annuitantref36_Match.j1 : Nat → Bool → Int → Int → List (S45) → Int → Int → List (S52) → Option ((List (S45)) × Int)
 | 0, _, _, _, _, _, _, _ => none
 | k + 1, x28, x240000, x240001, x240002, x241000, x241001, x241002 => if x28 = true then (some (([] : List (S45)), 363)) else (annuitantref36_Match.l0 k ([] : List (S45)) 0 x240000 x240001 x240002 x241000 x241001 x241002)
def annuitantref36_Match.l0 : Nat → List (S45) → Int → Int → Int → List (S45) → Int → Int → List (S52) → Option ((List (S45)) × Int)
 | 0, _, _, _, _, _, _, _, _ => none
 | k + 1, x6, x7, x240000, x240001, x240002, x241000, x241001, x241002 => if x7 < (x241002.length : Int) then (annuitantref36_Match.l1 k x6 x7 0 x240000 x240001 x240002 x241000 x241001 x241002) else (if (x6.length : Int) = (x241002.length : Int) then (some (x6, 0)) else (some (([] : List (S45)), 6)))
def annuitantref36_Match.l1 : Nat → List (S45) → Int → Int → Int → Int → List (S45) → Int → Int → List (S52) → Option ((List (S45)) × Int)
 | 0, _, _, _, _, _, _, _, _, _ => none
 | k + 1, x6, x7, x8, x240000, x240001, x240002, x241000, x241001, x241002 => if x8 < (x240002.length : Int) then (if 0 ≤ x8 then (if 0 ≤ x7 then (if x7 < (x241002.length : Int) then (if ((rd_T45 x240002 x8).f0) = ((rd_T52 x241002 x7).f0) then (if x6.length < 3518437208883 then (annuitantref36_Match.l1 k (x6 ++ [(⟨(rd_T45 x240002 x8).f0, (rd_T45 x240002 x8).f1, (rd_T45 x240002 x8).f2, (rd_T45 x240002 x8).f3, (rd_T45 x240002 x8).f4⟩ : S45)]) x7 (wrap64 (x8 + 1)) x240000 x240001 x240002 x241000 x241001 x241002) else (none)) else (annuitantref36_Match.l1 k x6 x7 (wrap64 (x8 + 1)) x240000 x240001 x240002 x241000 x241001 x241002)) else (none)) else (none)) else (none)) else (annuitantref36_Match.l0 k x6 (wrap64 (x7 + 1)) x240000 x240001 x240002 x241000 x241001 x241002)
end
def annuitantref36_Match.f (k : Nat) (a0_0 : Int) (a0_1 : Int) (l0_2 : List (S45)) (a1_0 : Int) (a1_1 : Int) (l1_2 : List (S52)) : Option ((List (S45)) × Int) := (annuitantref36_Valid.f k a0_0 a0_1 l0_2).bind fun t241 => (if t241 = true then ((annuitantref36_Right.f k a1_0 a1_1 l1_2).bind fun t242 => (annuitantref36_Match.j0 k (!t242) a0_0 a0_1 l0_2 a1_0 a1_1 l1_2)) else (annuitantref36_Match.j0 k true a0_0 a0_1 l0_2 a1_0 a1_1 l1_2))
theorem annuitantref36_Match.mono_l : ∀ k, (∀ y0 y1 y2 y3 y4 y5 y6, LeO (annuitantref36_Match.j0 k y0 y1 y2 y3 y4 y5 y6) (annuitantref36_Match.j0 (k + 1) y0 y1 y2 y3 y4 y5 y6)) ∧ (∀ y0 y1 y2 y3 y4 y5 y6, LeO (annuitantref36_Match.j1 k y0 y1 y2 y3 y4 y5 y6) (annuitantref36_Match.j1 (k + 1) y0 y1 y2 y3 y4 y5 y6)) ∧ (∀ y0 y1 y2 y3 y4 y5 y6 y7, LeO (annuitantref36_Match.l0 k y0 y1 y2 y3 y4 y5 y6 y7) (annuitantref36_Match.l0 (k + 1) y0 y1 y2 y3 y4 y5 y6 y7)) ∧ (∀ y0 y1 y2 y3 y4 y5 y6 y7 y8, LeO (annuitantref36_Match.l1 k y0 y1 y2 y3 y4 y5 y6 y7 y8) (annuitantref36_Match.l1 (k + 1) y0 y1 y2 y3 y4 y5 y6 y7 y8))
 | 0 => ⟨fun _ _ _ _ _ _ _ r h => by simp [annuitantref36_Match.j0] at h, fun _ _ _ _ _ _ _ r h => by simp [annuitantref36_Match.j1] at h, fun _ _ _ _ _ _ _ _ r h => by simp [annuitantref36_Match.l0] at h, fun _ _ _ _ _ _ _ _ _ r h => by simp [annuitantref36_Match.l1] at h⟩
 | k + 1 => by
  obtain ⟨ih0, ih1, ih2, ih3⟩ := annuitantref36_Match.mono_l k
  refine ⟨?_, ?_, ?_, ?_⟩
  ·
   intro y0 y1 y2 y3 y4 y5 y6
   unfold annuitantref36_Match.j0
   repeat' first
   | (with_reducible exact ih0 _ _ _ _ _ _ _)
   | (with_reducible exact ih1 _ _ _ _ _ _ _)
   | (with_reducible exact ih2 _ _ _ _ _ _ _ _)
   | (with_reducible exact ih3 _ _ _ _ _ _ _ _ _)
   | (with_reducible exact annuitantref36_Right.mono _ _ _ _)
   | (with_reducible exact annuitantref36_Valid.mono _ _ _ _)
   | (with_reducible exact LeO.refl _)
   | (with_reducible exact LeO.none _)
   | (with_reducible refine LeO.ite ?_ ?_)
   | (with_reducible refine LeO.bind ?_ (fun _ => ?_))
   | exact ih0 _ _ _ _ _ _ _
   | exact ih1 _ _ _ _ _ _ _
   | exact ih2 _ _ _ _ _ _ _ _
   | exact ih3 _ _ _ _ _ _ _ _ _
   | exact annuitantref36_Right.mono _ _ _ _
   | exact annuitantref36_Valid.mono _ _ _ _
   | exact LeO.none _
   | refine LeO.ite ?_ ?_
   | refine LeO.bind ?_ (fun _ => ?_)
  ·
   intro y0 y1 y2 y3 y4 y5 y6
   unfold annuitantref36_Match.j1
   repeat' first
   | (with_reducible exact ih0 _ _ _ _ _ _ _)
   | (with_reducible exact ih1 _ _ _ _ _ _ _)
   | (with_reducible exact ih2 _ _ _ _ _ _ _ _)
   | (with_reducible exact ih3 _ _ _ _ _ _ _ _ _)
   | (with_reducible exact annuitantref36_Right.mono _ _ _ _)
   | (with_reducible exact annuitantref36_Valid.mono _ _ _ _)
   | (with_reducible exact LeO.refl _)
   | (with_reducible exact LeO.none _)
   | (with_reducible refine LeO.ite ?_ ?_)
   | (with_reducible refine LeO.bind ?_ (fun _ => ?_))
   | exact ih0 _ _ _ _ _ _ _
   | exact ih1 _ _ _ _ _ _ _
   | exact ih2 _ _ _ _ _ _ _ _
   | exact ih3 _ _ _ _ _ _ _ _ _
   | exact annuitantref36_Right.mono _ _ _ _
   | exact annuitantref36_Valid.mono _ _ _ _
   | exact LeO.none _
   | refine LeO.ite ?_ ?_
   | refine LeO.bind ?_ (fun _ => ?_)
  ·
   intro y0 y1 y2 y3 y4 y5 y6 y7
   unfold annuitantref36_Match.l0
   repeat' first
   | (with_reducible exact ih0 _ _ _ _ _ _ _)
   | (with_reducible exact ih1 _ _ _ _ _ _ _)
   | (with_reducible exact ih2 _ _ _ _ _ _ _ _)
   | (with_reducible exact ih3 _ _ _ _ _ _ _ _ _)
   | (with_reducible exact annuitantref36_Right.mono _ _ _ _)
   | (with_reducible exact annuitantref36_Valid.mono _ _ _ _)
   | (with_reducible exact LeO.refl _)
   | (with_reducible exact LeO.none _)
   | (with_reducible refine LeO.ite ?_ ?_)
   | (with_reducible refine LeO.bind ?_ (fun _ => ?_))
   | exact ih0 _ _ _ _ _ _ _
   | exact ih1 _ _ _ _ _ _ _
   | exact ih2 _ _ _ _ _ _ _ _
   | exact ih3 _ _ _ _ _ _ _ _ _
   | exact annuitantref36_Right.mono _ _ _ _
   | exact annuitantref36_Valid.mono _ _ _ _
   | exact LeO.none _
   | refine LeO.ite ?_ ?_
   | refine LeO.bind ?_ (fun _ => ?_)
  ·
   intro y0 y1 y2 y3 y4 y5 y6 y7 y8
   unfold annuitantref36_Match.l1
   repeat' first
   | (with_reducible exact ih0 _ _ _ _ _ _ _)
   | (with_reducible exact ih1 _ _ _ _ _ _ _)
   | (with_reducible exact ih2 _ _ _ _ _ _ _ _)
   | (with_reducible exact ih3 _ _ _ _ _ _ _ _ _)
   | (with_reducible exact annuitantref36_Right.mono _ _ _ _)
   | (with_reducible exact annuitantref36_Valid.mono _ _ _ _)
   | (with_reducible exact LeO.refl _)
   | (with_reducible exact LeO.none _)
   | (with_reducible refine LeO.ite ?_ ?_)
   | (with_reducible refine LeO.bind ?_ (fun _ => ?_))
   | exact ih0 _ _ _ _ _ _ _
   | exact ih1 _ _ _ _ _ _ _
   | exact ih2 _ _ _ _ _ _ _ _
   | exact ih3 _ _ _ _ _ _ _ _ _
   | exact annuitantref36_Right.mono _ _ _ _
   | exact annuitantref36_Valid.mono _ _ _ _
   | exact LeO.none _
   | refine LeO.ite ?_ ?_
   | refine LeO.bind ?_ (fun _ => ?_)
theorem annuitantref36_Match.mono : ∀ a0 a1 a2 a3 a4 a5 k, LeO (annuitantref36_Match.f k a0 a1 a2 a3 a4 a5) (annuitantref36_Match.f (k + 1) a0 a1 a2 a3 a4 a5) := by
 intro a0 a1 a2 a3 a4 a5 k
 obtain ⟨ih0, ih1, ih2, ih3⟩ := annuitantref36_Match.mono_l k
 unfold annuitantref36_Match.f
 repeat' first
   | (with_reducible exact ih0 _ _ _ _ _ _ _)
   | (with_reducible exact ih1 _ _ _ _ _ _ _)
   | (with_reducible exact ih2 _ _ _ _ _ _ _ _)
   | (with_reducible exact ih3 _ _ _ _ _ _ _ _ _)
   | (with_reducible exact annuitantref36_Right.mono _ _ _ _)
   | (with_reducible exact annuitantref36_Valid.mono _ _ _ _)
   | (with_reducible exact LeO.refl _)
   | (with_reducible exact LeO.none _)
   | (with_reducible refine LeO.ite ?_ ?_)
   | (with_reducible refine LeO.bind ?_ (fun _ => ?_))
   | exact ih0 _ _ _ _ _ _ _
   | exact ih1 _ _ _ _ _ _ _
   | exact ih2 _ _ _ _ _ _ _ _
   | exact ih3 _ _ _ _ _ _ _ _ _
   | exact annuitantref36_Right.mono _ _ _ _
   | exact annuitantref36_Valid.mono _ _ _ _
   | exact LeO.none _
   | refine LeO.ite ?_ ?_
   | refine LeO.bind ?_ (fun _ => ?_)
set_option maxHeartbeats 8000000 in
set_option maxRecDepth 100000 in
theorem annuitantref36_Match.calls (k : Nat) (a0_0 : Int) (a0_1 : Int) (A0_2 : Option Addr) (c0_2 : Nat) (l0_2 : List (S45)) (a1_0 : Int) (a1_1 : Int) (A1_2 : Option Addr) (c1_2 : Nat) (l1_2 : List (S52)) (r1 : List (S45)) (r2 : Int) (w : World) (hr0_2 : Kd.C k45 w A0_2 l0_2.length l0_2) (hc0_2 : l0_2.length ≤ c0_2) (hr1_2 : Kd.C k52 w A1_2 l1_2.length l1_2) (hc1_2 : l1_2.length ≤ c1_2) (h : annuitantref36_Match.f k a0_0 a0_1 l0_2 a1_0 a1_1 l1_2 = some (r1, r2)) :
  Calls Tryd.prog 24 #[.agg #[.int .i64 a0_0, .int .i64 a0_1, .slice A0_2 l0_2.length c0_2], .agg #[.int .i64 a1_0, .int .i64 a1_1, .slice A1_2 l1_2.length c1_2]] w fun e w' => ∃ v0_ : Value, e = .returned (.tuple #[v0_, .int .i64 r2]) ∧ Kd.R k45 45 w' w.heap.size (fun _ => True) v0_ r1 ∧ Below w.heap.size w w' := by
 have hu30 := Tryd.underlying30
 have hu36 := Tryd.underlying36
 have hu45 := Tryd.underlying45
 have HR0_2 := Aside0.mk hr0_2
 have HC0_2 := Aside0.mk hc0_2
 clear hr0_2 hc0_2
 have HR1_2 := Aside0.mk hr1_2
 have HC1_2 := Aside0.mk hc1_2
 clear hr1_2 hc1_2
 have HB := Aside0.mk (Below.refl w.heap.size w)
 have H : ((annuitantref36_Valid.f k a0_0 a0_1 l0_2).bind fun t241 => (if t241 = true then ((annuitantref36_Right.f k a1_0 a1_1 l1_2).bind fun t242 => (annuitantref36_Match.j0 k (!t242) a0_0 a0_1 l0_2 a1_0 a1_1 l1_2)) else (annuitantref36_Match.j0 k true a0_0 a0_1 l0_2 a1_0 a1_1 l1_2))) = some (r1, r2) := h
 clear h
 have HC3 := Aside0.mk H
 clear H
 go_enter Tryd.func24, Tryd.ntmps24
 go_upto_region 1 with (first | ((with_reducible refine gate_dst (N := 2) rfl ?_); refine box_event ?hg (N := 2) ?hd (cs := #[.int .i64 a0_0, .int .i64 a0_1, .slice A0_2 l0_2.length c0_2]) (t := 30) ?hr ?_; (case hd => rfl); (case hg => rfl); (case hr => first | (go_simp; done) | (go_simp; rfl)); intro gb239 hg w4 hbox hb; have n0_ := Aside0.mk (below_step (by repeat (first | (with_reducible first | exact HB.out | apply below_alloc | apply pw_below_drewN | apply below_drew1) | exact HB.out)) hb); have n1_ := Aside0.mk (hbox); have n2_ := Aside0.mk ((by rw [hg]; exact (below_size (by repeat (first | (with_reducible first | exact HB.out | apply below_alloc | apply pw_below_drewN | apply below_drew1) | exact HB.out))) : w.heap.size ≤ gb239)); have n3_ := Aside0.mk ((by rw [hg]; exact (below_size (by repeat (first | (with_reducible first | exact HB.out | apply below_alloc | apply pw_below_drewN | apply below_drew1) | exact HB.out))) : w.heap.size ≤ gb239)); clear HB; have HB := n0_; have BK239 := n1_; have GW239 := n2_; have GE239 := n3_; clear n0_ n1_ n2_ n3_; clear hb hbox hg) | ((with_reducible refine gate_dst (N := 3) rfl ?_); refine box_event ?hg (N := 3) ?hd (cs := #[.int .i64 a1_0, .int .i64 a1_1, .slice A1_2 l1_2.length c1_2]) (t := 36) ?hr ?_; (case hd => rfl); (case hg => rfl); (case hr => first | (go_simp; done) | (go_simp; rfl)); intro gb240 hg w5 hbox hb; have n0_ := Aside0.mk (blk_below (g := gb239) (o := .cells #[.int .i64 a0_0, .int .i64 a0_1, .slice A0_2 l0_2.length c0_2] 30 (0, 0)) (by (with_reducible repeat (first | refine blk_drewN ?_ _ | refine blk_drew ?_ | refine blk_alloc ?_ _)); exact BK239.out) hb); have n1_ := Aside0.mk (below_step (by repeat (first | (with_reducible first | exact HB.out | apply below_alloc | apply pw_below_drewN | apply below_drew1 | refine below_set ?_ GE239.out) | exact HB.out)) hb); have n2_ := Aside0.mk (hbox); have n3_ := Aside0.mk ((by rw [hg]; exact (below_size (by repeat (first | (with_reducible first | exact HB.out | apply below_alloc | apply pw_below_drewN | apply below_drew1 | refine below_set ?_ GE239.out) | exact HB.out))) : w.heap.size ≤ gb240)); have n4_ := Aside0.mk ((by rw [hg]; exact (below_size (by repeat (first | (with_reducible first | exact HB.out | apply below_alloc | apply pw_below_drewN | apply below_drew1 | refine below_set ?_ GE239.out) | exact HB.out))) : w.heap.size ≤ gb240)); have n5_ := Aside0.mk ((by rw [hg]; exact Nat.ne_of_lt (blk_lt (g := gb239) (o := .cells #[.int .i64 a0_0, .int .i64 a0_1, .slice A0_2 l0_2.length c0_2] 30 (0, 0)) (by (with_reducible repeat (first | refine blk_drewN ?_ _ | refine blk_drew ?_ | refine blk_alloc ?_ _)); exact BK239.out)) : gb239 ≠ gb240)); have n6_ := Aside0.mk ((by rw [hg]; exact Nat.ne_of_gt (blk_lt (g := gb239) (o := .cells #[.int .i64 a0_0, .int .i64 a0_1, .slice A0_2 l0_2.length c0_2] 30 (0, 0)) (by (with_reducible repeat (first | refine blk_drewN ?_ _ | refine blk_drew ?_ | refine blk_alloc ?_ _)); exact BK239.out)) : gb240 ≠ gb239)); clear BK239; clear HB; have BK239 := n0_; have HB := n1_; have BK240 := n2_; have GW240 := n3_; have GE240 := n4_; have NB239_240 := n5_; have NB240_239 := n6_; clear n0_ n1_ n2_ n3_ n4_ n5_ n6_; clear hb hbox hg))
 repeat (go_quiet (first | ((with_reducible refine gate_dst (N := 2) rfl ?_); refine box_event ?hg (N := 2) ?hd (cs := #[.int .i64 a0_0, .int .i64 a0_1, .slice A0_2 l0_2.length c0_2]) (t := 30) ?hr ?_; (case hd => rfl); (case hg => rfl); (case hr => first | (go_simp; done) | (go_simp; rfl)); intro gb239 hg w4 hbox hb; have n0_ := Aside0.mk (below_step (by repeat (first | (with_reducible first | exact HB.out | apply below_alloc | apply pw_below_drewN | apply below_drew1) | exact HB.out)) hb); have n1_ := Aside0.mk (hbox); have n2_ := Aside0.mk ((by rw [hg]; exact (below_size (by repeat (first | (with_reducible first | exact HB.out | apply below_alloc | apply pw_below_drewN | apply below_drew1) | exact HB.out))) : w.heap.size ≤ gb239)); have n3_ := Aside0.mk ((by rw [hg]; exact (below_size (by repeat (first | (with_reducible first | exact HB.out | apply below_alloc | apply pw_below_drewN | apply below_drew1) | exact HB.out))) : w.heap.size ≤ gb239)); clear HB; have HB := n0_; have BK239 := n1_; have GW239 := n2_; have GE239 := n3_; clear n0_ n1_ n2_ n3_; clear hb hbox hg) | ((with_reducible refine gate_dst (N := 3) rfl ?_); refine box_event ?hg (N := 3) ?hd (cs := #[.int .i64 a1_0, .int .i64 a1_1, .slice A1_2 l1_2.length c1_2]) (t := 36) ?hr ?_; (case hd => rfl); (case hg => rfl); (case hr => first | (go_simp; done) | (go_simp; rfl)); intro gb240 hg w5 hbox hb; have n0_ := Aside0.mk (blk_below (g := gb239) (o := .cells #[.int .i64 a0_0, .int .i64 a0_1, .slice A0_2 l0_2.length c0_2] 30 (0, 0)) (by (with_reducible repeat (first | refine blk_drewN ?_ _ | refine blk_drew ?_ | refine blk_alloc ?_ _)); exact BK239.out) hb); have n1_ := Aside0.mk (below_step (by repeat (first | (with_reducible first | exact HB.out | apply below_alloc | apply pw_below_drewN | apply below_drew1 | refine below_set ?_ GE239.out) | exact HB.out)) hb); have n2_ := Aside0.mk (hbox); have n3_ := Aside0.mk ((by rw [hg]; exact (below_size (by repeat (first | (with_reducible first | exact HB.out | apply below_alloc | apply pw_below_drewN | apply below_drew1 | refine below_set ?_ GE239.out) | exact HB.out))) : w.heap.size ≤ gb240)); have n4_ := Aside0.mk ((by rw [hg]; exact (below_size (by repeat (first | (with_reducible first | exact HB.out | apply below_alloc | apply pw_below_drewN | apply below_drew1 | refine below_set ?_ GE239.out) | exact HB.out))) : w.heap.size ≤ gb240)); have n5_ := Aside0.mk ((by rw [hg]; exact Nat.ne_of_lt (blk_lt (g := gb239) (o := .cells #[.int .i64 a0_0, .int .i64 a0_1, .slice A0_2 l0_2.length c0_2] 30 (0, 0)) (by (with_reducible repeat (first | refine blk_drewN ?_ _ | refine blk_drew ?_ | refine blk_alloc ?_ _)); exact BK239.out)) : gb239 ≠ gb240)); have n6_ := Aside0.mk ((by rw [hg]; exact Nat.ne_of_gt (blk_lt (g := gb239) (o := .cells #[.int .i64 a0_0, .int .i64 a0_1, .slice A0_2 l0_2.length c0_2] 30 (0, 0)) (by (with_reducible repeat (first | refine blk_drewN ?_ _ | refine blk_drew ?_ | refine blk_alloc ?_ _)); exact BK239.out)) : gb240 ≠ gb239)); clear BK239; clear HB; have BK239 := n0_; have HB := n1_; have BK240 := n2_; have GW240 := n3_; have GE240 := n4_; have NB239_240 := n5_; have NB240_239 := n6_; clear n0_ n1_ n2_ n3_ n4_ n5_ n6_; clear hb hbox hg)); go_upto_region 1 with (first | ((with_reducible refine gate_dst (N := 2) rfl ?_); refine box_event ?hg (N := 2) ?hd (cs := #[.int .i64 a0_0, .int .i64 a0_1, .slice A0_2 l0_2.length c0_2]) (t := 30) ?hr ?_; (case hd => rfl); (case hg => rfl); (case hr => first | (go_simp; done) | (go_simp; rfl)); intro gb239 hg w4 hbox hb; have n0_ := Aside0.mk (below_step (by repeat (first | (with_reducible first | exact HB.out | apply below_alloc | apply pw_below_drewN | apply below_drew1) | exact HB.out)) hb); have n1_ := Aside0.mk (hbox); have n2_ := Aside0.mk ((by rw [hg]; exact (below_size (by repeat (first | (with_reducible first | exact HB.out | apply below_alloc | apply pw_below_drewN | apply below_drew1) | exact HB.out))) : w.heap.size ≤ gb239)); have n3_ := Aside0.mk ((by rw [hg]; exact (below_size (by repeat (first | (with_reducible first | exact HB.out | apply below_alloc | apply pw_below_drewN | apply below_drew1) | exact HB.out))) : w.heap.size ≤ gb239)); clear HB; have HB := n0_; have BK239 := n1_; have GW239 := n2_; have GE239 := n3_; clear n0_ n1_ n2_ n3_; clear hb hbox hg) | ((with_reducible refine gate_dst (N := 3) rfl ?_); refine box_event ?hg (N := 3) ?hd (cs := #[.int .i64 a1_0, .int .i64 a1_1, .slice A1_2 l1_2.length c1_2]) (t := 36) ?hr ?_; (case hd => rfl); (case hg => rfl); (case hr => first | (go_simp; done) | (go_simp; rfl)); intro gb240 hg w5 hbox hb; have n0_ := Aside0.mk (blk_below (g := gb239) (o := .cells #[.int .i64 a0_0, .int .i64 a0_1, .slice A0_2 l0_2.length c0_2] 30 (0, 0)) (by (with_reducible repeat (first | refine blk_drewN ?_ _ | refine blk_drew ?_ | refine blk_alloc ?_ _)); exact BK239.out) hb); have n1_ := Aside0.mk (below_step (by repeat (first | (with_reducible first | exact HB.out | apply below_alloc | apply pw_below_drewN | apply below_drew1 | refine below_set ?_ GE239.out) | exact HB.out)) hb); have n2_ := Aside0.mk (hbox); have n3_ := Aside0.mk ((by rw [hg]; exact (below_size (by repeat (first | (with_reducible first | exact HB.out | apply below_alloc | apply pw_below_drewN | apply below_drew1 | refine below_set ?_ GE239.out) | exact HB.out))) : w.heap.size ≤ gb240)); have n4_ := Aside0.mk ((by rw [hg]; exact (below_size (by repeat (first | (with_reducible first | exact HB.out | apply below_alloc | apply pw_below_drewN | apply below_drew1 | refine below_set ?_ GE239.out) | exact HB.out))) : w.heap.size ≤ gb240)); have n5_ := Aside0.mk ((by rw [hg]; exact Nat.ne_of_lt (blk_lt (g := gb239) (o := .cells #[.int .i64 a0_0, .int .i64 a0_1, .slice A0_2 l0_2.length c0_2] 30 (0, 0)) (by (with_reducible repeat (first | refine blk_drewN ?_ _ | refine blk_drew ?_ | refine blk_alloc ?_ _)); exact BK239.out)) : gb239 ≠ gb240)); have n6_ := Aside0.mk ((by rw [hg]; exact Nat.ne_of_gt (blk_lt (g := gb239) (o := .cells #[.int .i64 a0_0, .int .i64 a0_1, .slice A0_2 l0_2.length c0_2] 30 (0, 0)) (by (with_reducible repeat (first | refine blk_drewN ?_ _ | refine blk_drew ?_ | refine blk_alloc ?_ _)); exact BK239.out)) : gb240 ≠ gb239)); clear BK239; clear HB; have BK239 := n0_; have HB := n1_; have BK240 := n2_; have GW240 := n3_; have GE240 := n4_; have NB239_240 := n5_; have NB240_239 := n6_; clear n0_ n1_ n2_ n3_ n4_ n5_ n6_; clear hb hbox hg)))
 (try simp only [Act.put, List.setIfInBounds_toArray, List.set_cons_zero, List.set_cons_succ])
 go_cut [16] (fun v16 wc => ∃ (kq : Nat) (x16_2 : Bool), v16 = .bool x16_2 ∧ Aside0 (annuitantref36_Match.j0 kq x16_2 a0_0 a0_1 l0_2 a1_0 a1_1 l1_2 = some (r1, r2)) ∧ Aside0 (kq ≤ k) ∧ Aside0 (wc.heap[gb239]? = some (.cells #[.int .i64 a0_0, .int .i64 a0_1, (.slice A0_2 l0_2.length c0_2)] 30 (0, 0))) ∧ Aside0 (wc.heap[gb240]? = some (.cells #[.int .i64 a1_0, .int .i64 a1_1, (.slice A1_2 l1_2.length c1_2)] 36 (0, 0))) ∧ Aside0 (Below w.heap.size w wc))
 case first =>
  have H := HC3.out
  clear HC3
  replace H := Option.bind_eq_some_iff.mp H
  obtain ⟨t241, A60, H⟩ := H
  replace H : (if t241 = true then ((annuitantref36_Right.f k a1_0 a1_1 l1_2).bind fun t242 => (annuitantref36_Match.j0 k (!t242) a0_0 a0_1 l0_2 a1_0 a1_1 l1_2)) else (annuitantref36_Match.j0 k true a0_0 a0_1 l0_2 a1_0 a1_1 l1_2)) = some (r1, r2) := H
  have A6 := Aside0.mk A60
  clear A60
  by_cases c7 : t241 = true
  ·
   subst c7
   have H1 : ((annuitantref36_Right.f k a1_0 a1_1 l1_2).bind fun t242 => (annuitantref36_Match.j0 k (!t242) a0_0 a0_1 l0_2 a1_0 a1_1 l1_2)) = some (r1, r2) := by rw [if_pos rfl] at H; exact H
   clear H
   have H := H1
   clear H1
   replace H := Option.bind_eq_some_iff.mp H
   obtain ⟨t242, A80, H⟩ := H
   replace H : (annuitantref36_Match.j0 k (!t242) a0_0 a0_1 l0_2 a1_0 a1_1 l1_2) = some (r1, r2) := H
   have A8 := Aside0.mk A80
   clear A80
   have H' := Aside0.mk H
   clear H
   have hnb9 := NB239_240.out
   have hnc9 := NB240_239.out
   have hcz10_0 : w5.cell? ⟨gb239, 0, none⟩ = some (.int .i64 a0_0) := (blk_cell BK239.out 0).trans rfl
   have hcz10_1 : w5.cell? ⟨gb239, 1, none⟩ = some (.int .i64 a0_1) := (blk_cell BK239.out 1).trans rfl
   have hcz10_2 : w5.cell? ⟨gb239, 2, none⟩ = some (.slice A0_2 l0_2.length c0_2) := (blk_cell BK239.out 2).trans rfl
   have hfz10_0 := blk_frozen BK239.out 0
   have hfz10_1 := blk_frozen BK239.out 1
   have hfz10_2 := blk_frozen BK239.out 2
   go_wp2_with (first | (go_at_call 6; (with_reducible refine (annuitantref36_Valid.calls k a0_0 a0_1 _ _ l0_2 true _ ?side1 ?side2 A6.out).mono ?_); (case side1 => repeat (first | exact (Kd.C_below HR0_2.out HB.out) | (with_reducible refine Kd.C_alloc ?_ _) | (with_reducible refine Kd.C_drewN ?_ _) | (with_reducible refine Kd.C_drew ?_))); (case side2 => exact HC0_2.out); rintro e w11 ⟨rfl, hb⟩; have n0_ := Aside0.mk (blk_below (g := gb239) (o := .cells #[.int .i64 a0_0, .int .i64 a0_1, .slice A0_2 l0_2.length c0_2] 30 (0, 0)) (by (with_reducible repeat (first | refine blk_drewN ?_ _ | refine blk_drew ?_ | refine blk_alloc ?_ _)); exact BK239.out) hb); have n1_ := Aside0.mk (blk_below (g := gb240) (o := .cells #[.int .i64 a1_0, .int .i64 a1_1, .slice A1_2 l1_2.length c1_2] 36 (0, 0)) (by (with_reducible repeat (first | refine blk_drewN ?_ _ | refine blk_drew ?_ | refine blk_alloc ?_ _)); exact BK240.out) hb); have n2_ := Aside0.mk (below_step (by repeat (first | (with_reducible first | exact HB.out | apply below_alloc | apply pw_below_drewN | apply below_drew1 | refine below_set ?_ GE239.out | refine below_set ?_ GE240.out) | exact HB.out)) hb); clear BK239; clear BK240; clear HB; have BK239 := n0_; have BK240 := n1_; have HB := n2_; clear n0_ n1_ n2_; (try clear hb); (try clear hb2); (try clear hk); (try clear hi); have hcz12_0 : w11.cell? ⟨gb240, 0, none⟩ = some (.int .i64 a1_0) := (blk_cell BK240.out 0).trans rfl; have hcz12_1 : w11.cell? ⟨gb240, 1, none⟩ = some (.int .i64 a1_1) := (blk_cell BK240.out 1).trans rfl; have hcz12_2 : w11.cell? ⟨gb240, 2, none⟩ = some (.slice A1_2 l1_2.length c1_2) := (blk_cell BK240.out 2).trans rfl; have hfz12_0 := blk_frozen BK240.out 0; have hfz12_1 := blk_frozen BK240.out 1; have hfz12_2 := blk_frozen BK240.out 2) | (go_at_call 9; (with_reducible refine (annuitantref36_Right.calls k a1_0 a1_1 _ _ l1_2 t242 _ ?side1 ?side2 A8.out).mono ?_); (case side1 => repeat (first | exact (Kd.C_below HR1_2.out HB.out) | (with_reducible refine Kd.C_alloc ?_ _) | (with_reducible refine Kd.C_drewN ?_ _) | (with_reducible refine Kd.C_drew ?_))); (case side2 => exact HC1_2.out); rintro e w13 ⟨rfl, hb⟩; have n0_ := Aside0.mk (blk_below (g := gb239) (o := .cells #[.int .i64 a0_0, .int .i64 a0_1, .slice A0_2 l0_2.length c0_2] 30 (0, 0)) (by (with_reducible repeat (first | refine blk_drewN ?_ _ | refine blk_drew ?_ | refine blk_alloc ?_ _)); exact BK239.out) hb); have n1_ := Aside0.mk (blk_below (g := gb240) (o := .cells #[.int .i64 a1_0, .int .i64 a1_1, .slice A1_2 l1_2.length c1_2] 36 (0, 0)) (by (with_reducible repeat (first | refine blk_drewN ?_ _ | refine blk_drew ?_ | refine blk_alloc ?_ _)); exact BK240.out) hb); have n2_ := Aside0.mk (below_step (by repeat (first | (with_reducible first | exact HB.out | apply below_alloc | apply pw_below_drewN | apply below_drew1 | refine below_set ?_ GE239.out | refine below_set ?_ GE240.out) | exact HB.out)) hb); clear BK239; clear BK240; clear HB; have BK239 := n0_; have BK240 := n1_; have HB := n2_; clear n0_ n1_ n2_; (try clear hb); (try clear hb2); (try clear hk); (try clear hi)))
   repeat (go_quiet (first | (go_at_call 6; (with_reducible refine (annuitantref36_Valid.calls k a0_0 a0_1 _ _ l0_2 true _ ?side1 ?side2 A6.out).mono ?_); (case side1 => repeat (first | exact (Kd.C_below HR0_2.out HB.out) | (with_reducible refine Kd.C_alloc ?_ _) | (with_reducible refine Kd.C_drewN ?_ _) | (with_reducible refine Kd.C_drew ?_))); (case side2 => exact HC0_2.out); rintro e w11 ⟨rfl, hb⟩; have n0_ := Aside0.mk (blk_below (g := gb239) (o := .cells #[.int .i64 a0_0, .int .i64 a0_1, .slice A0_2 l0_2.length c0_2] 30 (0, 0)) (by (with_reducible repeat (first | refine blk_drewN ?_ _ | refine blk_drew ?_ | refine blk_alloc ?_ _)); exact BK239.out) hb); have n1_ := Aside0.mk (blk_below (g := gb240) (o := .cells #[.int .i64 a1_0, .int .i64 a1_1, .slice A1_2 l1_2.length c1_2] 36 (0, 0)) (by (with_reducible repeat (first | refine blk_drewN ?_ _ | refine blk_drew ?_ | refine blk_alloc ?_ _)); exact BK240.out) hb); have n2_ := Aside0.mk (below_step (by repeat (first | (with_reducible first | exact HB.out | apply below_alloc | apply pw_below_drewN | apply below_drew1 | refine below_set ?_ GE239.out | refine below_set ?_ GE240.out) | exact HB.out)) hb); clear BK239; clear BK240; clear HB; have BK239 := n0_; have BK240 := n1_; have HB := n2_; clear n0_ n1_ n2_; (try clear hb); (try clear hb2); (try clear hk); (try clear hi); have hcz12_0 : w11.cell? ⟨gb240, 0, none⟩ = some (.int .i64 a1_0) := (blk_cell BK240.out 0).trans rfl; have hcz12_1 : w11.cell? ⟨gb240, 1, none⟩ = some (.int .i64 a1_1) := (blk_cell BK240.out 1).trans rfl; have hcz12_2 : w11.cell? ⟨gb240, 2, none⟩ = some (.slice A1_2 l1_2.length c1_2) := (blk_cell BK240.out 2).trans rfl; have hfz12_0 := blk_frozen BK240.out 0; have hfz12_1 := blk_frozen BK240.out 1; have hfz12_2 := blk_frozen BK240.out 2) | (go_at_call 9; (with_reducible refine (annuitantref36_Right.calls k a1_0 a1_1 _ _ l1_2 t242 _ ?side1 ?side2 A8.out).mono ?_); (case side1 => repeat (first | exact (Kd.C_below HR1_2.out HB.out) | (with_reducible refine Kd.C_alloc ?_ _) | (with_reducible refine Kd.C_drewN ?_ _) | (with_reducible refine Kd.C_drew ?_))); (case side2 => exact HC1_2.out); rintro e w13 ⟨rfl, hb⟩; have n0_ := Aside0.mk (blk_below (g := gb239) (o := .cells #[.int .i64 a0_0, .int .i64 a0_1, .slice A0_2 l0_2.length c0_2] 30 (0, 0)) (by (with_reducible repeat (first | refine blk_drewN ?_ _ | refine blk_drew ?_ | refine blk_alloc ?_ _)); exact BK239.out) hb); have n1_ := Aside0.mk (blk_below (g := gb240) (o := .cells #[.int .i64 a1_0, .int .i64 a1_1, .slice A1_2 l1_2.length c1_2] 36 (0, 0)) (by (with_reducible repeat (first | refine blk_drewN ?_ _ | refine blk_drew ?_ | refine blk_alloc ?_ _)); exact BK240.out) hb); have n2_ := Aside0.mk (below_step (by repeat (first | (with_reducible first | exact HB.out | apply below_alloc | apply pw_below_drewN | apply below_drew1 | refine below_set ?_ GE239.out | refine below_set ?_ GE240.out) | exact HB.out)) hb); clear BK239; clear BK240; clear HB; have BK239 := n0_; have BK240 := n1_; have HB := n2_; clear n0_ n1_ n2_; (try clear hb); (try clear hb2); (try clear hk); (try clear hi))); try go_wp2_with (first | (go_at_call 6; (with_reducible refine (annuitantref36_Valid.calls k a0_0 a0_1 _ _ l0_2 true _ ?side1 ?side2 A6.out).mono ?_); (case side1 => repeat (first | exact (Kd.C_below HR0_2.out HB.out) | (with_reducible refine Kd.C_alloc ?_ _) | (with_reducible refine Kd.C_drewN ?_ _) | (with_reducible refine Kd.C_drew ?_))); (case side2 => exact HC0_2.out); rintro e w11 ⟨rfl, hb⟩; have n0_ := Aside0.mk (blk_below (g := gb239) (o := .cells #[.int .i64 a0_0, .int .i64 a0_1, .slice A0_2 l0_2.length c0_2] 30 (0, 0)) (by (with_reducible repeat (first | refine blk_drewN ?_ _ | refine blk_drew ?_ | refine blk_alloc ?_ _)); exact BK239.out) hb); have n1_ := Aside0.mk (blk_below (g := gb240) (o := .cells #[.int .i64 a1_0, .int .i64 a1_1, .slice A1_2 l1_2.length c1_2] 36 (0, 0)) (by (with_reducible repeat (first | refine blk_drewN ?_ _ | refine blk_drew ?_ | refine blk_alloc ?_ _)); exact BK240.out) hb); have n2_ := Aside0.mk (below_step (by repeat (first | (with_reducible first | exact HB.out | apply below_alloc | apply pw_below_drewN | apply below_drew1 | refine below_set ?_ GE239.out | refine below_set ?_ GE240.out) | exact HB.out)) hb); clear BK239; clear BK240; clear HB; have BK239 := n0_; have BK240 := n1_; have HB := n2_; clear n0_ n1_ n2_; (try clear hb); (try clear hb2); (try clear hk); (try clear hi); have hcz12_0 : w11.cell? ⟨gb240, 0, none⟩ = some (.int .i64 a1_0) := (blk_cell BK240.out 0).trans rfl; have hcz12_1 : w11.cell? ⟨gb240, 1, none⟩ = some (.int .i64 a1_1) := (blk_cell BK240.out 1).trans rfl; have hcz12_2 : w11.cell? ⟨gb240, 2, none⟩ = some (.slice A1_2 l1_2.length c1_2) := (blk_cell BK240.out 2).trans rfl; have hfz12_0 := blk_frozen BK240.out 0; have hfz12_1 := blk_frozen BK240.out 1; have hfz12_2 := blk_frozen BK240.out 2) | (go_at_call 9; (with_reducible refine (annuitantref36_Right.calls k a1_0 a1_1 _ _ l1_2 t242 _ ?side1 ?side2 A8.out).mono ?_); (case side1 => repeat (first | exact (Kd.C_below HR1_2.out HB.out) | (with_reducible refine Kd.C_alloc ?_ _) | (with_reducible refine Kd.C_drewN ?_ _) | (with_reducible refine Kd.C_drew ?_))); (case side2 => exact HC1_2.out); rintro e w13 ⟨rfl, hb⟩; have n0_ := Aside0.mk (blk_below (g := gb239) (o := .cells #[.int .i64 a0_0, .int .i64 a0_1, .slice A0_2 l0_2.length c0_2] 30 (0, 0)) (by (with_reducible repeat (first | refine blk_drewN ?_ _ | refine blk_drew ?_ | refine blk_alloc ?_ _)); exact BK239.out) hb); have n1_ := Aside0.mk (blk_below (g := gb240) (o := .cells #[.int .i64 a1_0, .int .i64 a1_1, .slice A1_2 l1_2.length c1_2] 36 (0, 0)) (by (with_reducible repeat (first | refine blk_drewN ?_ _ | refine blk_drew ?_ | refine blk_alloc ?_ _)); exact BK240.out) hb); have n2_ := Aside0.mk (below_step (by repeat (first | (with_reducible first | exact HB.out | apply below_alloc | apply pw_below_drewN | apply below_drew1 | refine below_set ?_ GE239.out | refine below_set ?_ GE240.out) | exact HB.out)) hb); clear BK239; clear BK240; clear HB; have BK239 := n0_; have BK240 := n1_; have HB := n2_; clear n0_ n1_ n2_; (try clear hb); (try clear hb2); (try clear hk); (try clear hi))))
   go_meet
   case rel => exact ⟨_, (!t242), (by first | rfl | (simp; done) | (simp [*]; done)), H', ⟨by first | omega | exact Nat.le_refl _⟩, ⟨by (with_reducible repeat (first | refine blk_drewN ?_ _ | refine blk_drew ?_ | refine blk_alloc ?_ _)); exact BK239.out⟩, ⟨by (with_reducible repeat (first | refine blk_drewN ?_ _ | refine blk_drew ?_ | refine blk_alloc ?_ _)); exact BK240.out⟩, ⟨by repeat (first | (with_reducible first | exact HB.out | apply below_alloc | apply pw_below_drewN | apply below_drew1 | refine below_set ?_ GE239.out | refine below_set ?_ GE240.out) | exact HB.out)⟩⟩
  ·
   replace c7 := Bool.eq_false_iff.mpr c7
   subst c7
   have H1 : (annuitantref36_Match.j0 k true a0_0 a0_1 l0_2 a1_0 a1_1 l1_2) = some (r1, r2) := by rw [if_neg (show ¬ (false = true) by decide)] at H; exact H
   clear H
   have H := H1
   clear H1
   have H' := Aside0.mk H
   clear H
   have hnb14 := NB239_240.out
   have hnc14 := NB240_239.out
   have hcz15_0 : w5.cell? ⟨gb239, 0, none⟩ = some (.int .i64 a0_0) := (blk_cell BK239.out 0).trans rfl
   have hcz15_1 : w5.cell? ⟨gb239, 1, none⟩ = some (.int .i64 a0_1) := (blk_cell BK239.out 1).trans rfl
   have hcz15_2 : w5.cell? ⟨gb239, 2, none⟩ = some (.slice A0_2 l0_2.length c0_2) := (blk_cell BK239.out 2).trans rfl
   have hfz15_0 := blk_frozen BK239.out 0
   have hfz15_1 := blk_frozen BK239.out 1
   have hfz15_2 := blk_frozen BK239.out 2
   go_wp2_with (first | (go_at_call 6; (with_reducible refine (annuitantref36_Valid.calls k a0_0 a0_1 _ _ l0_2 false _ ?side1 ?side2 A6.out).mono ?_); (case side1 => repeat (first | exact (Kd.C_below HR0_2.out HB.out) | (with_reducible refine Kd.C_alloc ?_ _) | (with_reducible refine Kd.C_drewN ?_ _) | (with_reducible refine Kd.C_drew ?_))); (case side2 => exact HC0_2.out); rintro e w16 ⟨rfl, hb⟩; have n0_ := Aside0.mk (blk_below (g := gb239) (o := .cells #[.int .i64 a0_0, .int .i64 a0_1, .slice A0_2 l0_2.length c0_2] 30 (0, 0)) (by (with_reducible repeat (first | refine blk_drewN ?_ _ | refine blk_drew ?_ | refine blk_alloc ?_ _)); exact BK239.out) hb); have n1_ := Aside0.mk (blk_below (g := gb240) (o := .cells #[.int .i64 a1_0, .int .i64 a1_1, .slice A1_2 l1_2.length c1_2] 36 (0, 0)) (by (with_reducible repeat (first | refine blk_drewN ?_ _ | refine blk_drew ?_ | refine blk_alloc ?_ _)); exact BK240.out) hb); have n2_ := Aside0.mk (below_step (by repeat (first | (with_reducible first | exact HB.out | apply below_alloc | apply pw_below_drewN | apply below_drew1 | refine below_set ?_ GE239.out | refine below_set ?_ GE240.out) | exact HB.out)) hb); clear BK239; clear BK240; clear HB; have BK239 := n0_; have BK240 := n1_; have HB := n2_; clear n0_ n1_ n2_; (try clear hb); (try clear hb2); (try clear hk); (try clear hi)))
   repeat (go_quiet (first | (go_at_call 6; (with_reducible refine (annuitantref36_Valid.calls k a0_0 a0_1 _ _ l0_2 false _ ?side1 ?side2 A6.out).mono ?_); (case side1 => repeat (first | exact (Kd.C_below HR0_2.out HB.out) | (with_reducible refine Kd.C_alloc ?_ _) | (with_reducible refine Kd.C_drewN ?_ _) | (with_reducible refine Kd.C_drew ?_))); (case side2 => exact HC0_2.out); rintro e w16 ⟨rfl, hb⟩; have n0_ := Aside0.mk (blk_below (g := gb239) (o := .cells #[.int .i64 a0_0, .int .i64 a0_1, .slice A0_2 l0_2.length c0_2] 30 (0, 0)) (by (with_reducible repeat (first | refine blk_drewN ?_ _ | refine blk_drew ?_ | refine blk_alloc ?_ _)); exact BK239.out) hb); have n1_ := Aside0.mk (blk_below (g := gb240) (o := .cells #[.int .i64 a1_0, .int .i64 a1_1, .slice A1_2 l1_2.length c1_2] 36 (0, 0)) (by (with_reducible repeat (first | refine blk_drewN ?_ _ | refine blk_drew ?_ | refine blk_alloc ?_ _)); exact BK240.out) hb); have n2_ := Aside0.mk (below_step (by repeat (first | (with_reducible first | exact HB.out | apply below_alloc | apply pw_below_drewN | apply below_drew1 | refine below_set ?_ GE239.out | refine below_set ?_ GE240.out) | exact HB.out)) hb); clear BK239; clear BK240; clear HB; have BK239 := n0_; have BK240 := n1_; have HB := n2_; clear n0_ n1_ n2_; (try clear hb); (try clear hb2); (try clear hk); (try clear hi))); try go_wp2_with (first | (go_at_call 6; (with_reducible refine (annuitantref36_Valid.calls k a0_0 a0_1 _ _ l0_2 false _ ?side1 ?side2 A6.out).mono ?_); (case side1 => repeat (first | exact (Kd.C_below HR0_2.out HB.out) | (with_reducible refine Kd.C_alloc ?_ _) | (with_reducible refine Kd.C_drewN ?_ _) | (with_reducible refine Kd.C_drew ?_))); (case side2 => exact HC0_2.out); rintro e w16 ⟨rfl, hb⟩; have n0_ := Aside0.mk (blk_below (g := gb239) (o := .cells #[.int .i64 a0_0, .int .i64 a0_1, .slice A0_2 l0_2.length c0_2] 30 (0, 0)) (by (with_reducible repeat (first | refine blk_drewN ?_ _ | refine blk_drew ?_ | refine blk_alloc ?_ _)); exact BK239.out) hb); have n1_ := Aside0.mk (blk_below (g := gb240) (o := .cells #[.int .i64 a1_0, .int .i64 a1_1, .slice A1_2 l1_2.length c1_2] 36 (0, 0)) (by (with_reducible repeat (first | refine blk_drewN ?_ _ | refine blk_drew ?_ | refine blk_alloc ?_ _)); exact BK240.out) hb); have n2_ := Aside0.mk (below_step (by repeat (first | (with_reducible first | exact HB.out | apply below_alloc | apply pw_below_drewN | apply below_drew1 | refine below_set ?_ GE239.out | refine below_set ?_ GE240.out) | exact HB.out)) hb); clear BK239; clear BK240; clear HB; have BK239 := n0_; have BK240 := n1_; have HB := n2_; clear n0_ n1_ n2_; (try clear hb); (try clear hb2); (try clear hk); (try clear hi))))
   go_meet
   case rel => exact ⟨_, (true), (by first | rfl | (simp; done) | (simp [*]; done)), H', ⟨by first | omega | exact Nat.le_refl _⟩, ⟨by (with_reducible repeat (first | refine blk_drewN ?_ _ | refine blk_drew ?_ | refine blk_alloc ?_ _)); exact BK239.out⟩, ⟨by (with_reducible repeat (first | refine blk_drewN ?_ _ | refine blk_drew ?_ | refine blk_alloc ?_ _)); exact BK240.out⟩, ⟨by repeat (first | (with_reducible first | exact HB.out | apply below_alloc | apply pw_below_drewN | apply below_drew1 | refine below_set ?_ GE239.out | refine below_set ?_ GE240.out) | exact HB.out)⟩⟩
 case rest =>
  clear HC3
  try clear c1
  try clear c2
  try clear p2
  try clear c7
  try clear c9
  try clear c14
  try clear hcz10_0
  try clear hcz10_1
  try clear hcz10_2
  try clear hcz12_0
  try clear hcz12_1
  try clear hcz12_2
  try clear hcz15_0
  try clear hcz15_1
  try clear hcz15_2
  try clear hfz10_0
  try clear hfz10_1
  try clear hfz10_2
  try clear hfz12_0
  try clear hfz12_1
  try clear hfz12_2
  try clear hfz15_0
  try clear hfz15_1
  try clear hfz15_2
  obtain ⟨kq, x16_2, rfl, HA, HJ2, BK239, BK240, HB⟩ := hcut
  cases kq with
  | zero => exact absurd HA.out (by simp [annuitantref36_Match.j0])
  | succ kj2 =>
   have H := HA.out
   clear HA
   simp only [annuitantref36_Match.j0] at H
   by_cases c17 : x16_2 = true
   ·
    subst c17
    have H1 : (some (([] : List (S45)), 2)) = some (r1, r2) := by rw [if_pos rfl] at H; exact H
    clear H
    have H := H1
    clear H1
    simp only [Option.some.injEq, Prod.mk.injEq] at H
    obtain ⟨rfl, rfl⟩ := H
    go_wp2
    repeat (go_quiet (fail); try go_wp2)
    go_ret2
    exact ⟨_, by first | rfl | (simp [errW_none, errW_some] <;> rfl) | (simp [*, errW_none, errW_some] <;> rfl), by first | exact Kd.R_nil _ _ _ _ _ | exact Kd.N_nil _ _ _ _ _ | exact Kd.V_nil _ _ _ _ _ | exact Kd.Q_nil _ _ _ _ _ | exact Kd.S_nil _ _ _ _ _, by repeat (first | (with_reducible first | exact HB.out | apply below_alloc | apply pw_below_drewN | apply below_drew1 | refine below_set ?_ GE239.out | refine below_set ?_ GE240.out) | exact HB.out)⟩
   ·
    replace c17 := Bool.eq_false_iff.mpr c17
    subst c17
    have H1 : (if a0_0 = a1_0 then (annuitantref36_Match.j1 kj2 (decide (a1_1 < a0_1)) a0_0 a0_1 l0_2 a1_0 a1_1 l1_2) else (annuitantref36_Match.j1 kj2 true a0_0 a0_1 l0_2 a1_0 a1_1 l1_2)) = some (r1, r2) := by rw [if_neg (show ¬ (false = true) by decide)] at H; exact H
    clear H
    have H := H1
    clear H1
    have HC18 := Aside0.mk H
    clear H
    go_upto_region 3 with (fail)
    repeat (go_quiet (fail); go_upto_region 3 with (fail))
    go_cut [28] (fun v28 wc => ∃ (kq : Nat) (x28_17 : Bool), v28 = .bool x28_17 ∧ Aside0 (annuitantref36_Match.j1 kq x28_17 a0_0 a0_1 l0_2 a1_0 a1_1 l1_2 = some (r1, r2)) ∧ Aside0 (kq ≤ kj2) ∧ Aside0 (wc.heap[gb239]? = some (.cells #[.int .i64 a0_0, .int .i64 a0_1, (.slice A0_2 l0_2.length c0_2)] 30 (0, 0))) ∧ Aside0 (wc.heap[gb240]? = some (.cells #[.int .i64 a1_0, .int .i64 a1_1, (.slice A1_2 l1_2.length c1_2)] 36 (0, 0))) ∧ Aside0 (Below w.heap.size w wc))
    case first =>
     have H := HC18.out
     clear HC18
     by_cases c19 : a0_0 = a1_0
     ·
      rw [if_pos c19] at H
      have c19b0 : (a0_0 == a1_0) = true := beq_iff_eq.mpr c19
      have c19b1 : (a0_0 != a1_0) = false := bne_eq_false_iff_eq.mpr c19
      clear c19
      (first | rw [c19b0] | (simp only [i64_w, i32_w]; rw [c19b0]) | skip)
      have H' := Aside0.mk H
      clear H
      have hnb20 := NB239_240.out
      have hnc20 := NB240_239.out
      have hcz21_0 : wc.cell? ⟨gb239, 0, none⟩ = some (.int .i64 a0_0) := (blk_cell BK239.out 0).trans rfl
      have hcz21_1 : wc.cell? ⟨gb239, 1, none⟩ = some (.int .i64 a0_1) := (blk_cell BK239.out 1).trans rfl
      have hcz21_2 : wc.cell? ⟨gb239, 2, none⟩ = some (.slice A0_2 l0_2.length c0_2) := (blk_cell BK239.out 2).trans rfl
      have hfz21_0 := blk_frozen BK239.out 0
      have hfz21_1 := blk_frozen BK239.out 1
      have hfz21_2 := blk_frozen BK239.out 2
      have hcz22_0 : wc.cell? ⟨gb240, 0, none⟩ = some (.int .i64 a1_0) := (blk_cell BK240.out 0).trans rfl
      have hcz22_1 : wc.cell? ⟨gb240, 1, none⟩ = some (.int .i64 a1_1) := (blk_cell BK240.out 1).trans rfl
      have hcz22_2 : wc.cell? ⟨gb240, 2, none⟩ = some (.slice A1_2 l1_2.length c1_2) := (blk_cell BK240.out 2).trans rfl
      have hfz22_0 := blk_frozen BK240.out 0
      have hfz22_1 := blk_frozen BK240.out 1
      have hfz22_2 := blk_frozen BK240.out 2
      go_wp2
      repeat (go_quiet (fail); try go_wp2)
      go_meet
      case rel => exact ⟨_, (decide (a1_1 < a0_1)), (by first | rfl | (simp; done) | (simp [*]; done)), H', ⟨by have := HJ2.out; first | omega | exact Nat.le_refl _⟩, ⟨by (with_reducible repeat (first | refine blk_drewN ?_ _ | refine blk_drew ?_ | refine blk_alloc ?_ _)); exact BK239.out⟩, ⟨by (with_reducible repeat (first | refine blk_drewN ?_ _ | refine blk_drew ?_ | refine blk_alloc ?_ _)); exact BK240.out⟩, ⟨by repeat (first | (with_reducible first | exact HB.out | apply below_alloc | apply pw_below_drewN | apply below_drew1 | refine below_set ?_ GE239.out | refine below_set ?_ GE240.out) | exact HB.out)⟩⟩
     ·
      rw [if_neg c19] at H
      have c19b0 : (a0_0 == a1_0) = false := beq_eq_false_iff_ne.mpr c19
      have c19b1 : (a0_0 != a1_0) = true := bne_iff_ne.mpr c19
      (first | rw [c19b0] | (simp only [i64_w, i32_w]; rw [c19b0]) | skip)
      have H' := Aside0.mk H
      clear H
      have hnb23 := NB239_240.out
      have hnc23 := NB240_239.out
      have hcz24_0 : wc.cell? ⟨gb239, 0, none⟩ = some (.int .i64 a0_0) := (blk_cell BK239.out 0).trans rfl
      have hcz24_1 : wc.cell? ⟨gb239, 1, none⟩ = some (.int .i64 a0_1) := (blk_cell BK239.out 1).trans rfl
      have hcz24_2 : wc.cell? ⟨gb239, 2, none⟩ = some (.slice A0_2 l0_2.length c0_2) := (blk_cell BK239.out 2).trans rfl
      have hfz24_0 := blk_frozen BK239.out 0
      have hfz24_1 := blk_frozen BK239.out 1
      have hfz24_2 := blk_frozen BK239.out 2
      have hcz25_0 : wc.cell? ⟨gb240, 0, none⟩ = some (.int .i64 a1_0) := (blk_cell BK240.out 0).trans rfl
      have hcz25_1 : wc.cell? ⟨gb240, 1, none⟩ = some (.int .i64 a1_1) := (blk_cell BK240.out 1).trans rfl
      have hcz25_2 : wc.cell? ⟨gb240, 2, none⟩ = some (.slice A1_2 l1_2.length c1_2) := (blk_cell BK240.out 2).trans rfl
      have hfz25_0 := blk_frozen BK240.out 0
      have hfz25_1 := blk_frozen BK240.out 1
      have hfz25_2 := blk_frozen BK240.out 2
      go_wp2
      repeat (go_quiet (fail); try go_wp2)
      go_meet
      case rel => exact ⟨_, (true), (by first | rfl | (simp; done) | (simp [*]; done)), H', ⟨by have := HJ2.out; first | omega | exact Nat.le_refl _⟩, ⟨by (with_reducible repeat (first | refine blk_drewN ?_ _ | refine blk_drew ?_ | refine blk_alloc ?_ _)); exact BK239.out⟩, ⟨by (with_reducible repeat (first | refine blk_drewN ?_ _ | refine blk_drew ?_ | refine blk_alloc ?_ _)); exact BK240.out⟩, ⟨by repeat (first | (with_reducible first | exact HB.out | apply below_alloc | apply pw_below_drewN | apply below_drew1 | refine below_set ?_ GE239.out | refine below_set ?_ GE240.out) | exact HB.out)⟩⟩
    case rest =>
     clear HC18
     try clear c1
     try clear c2
     try clear p2
     try clear c7
     try clear c9
     try clear c14
     try clear c17
     try clear c19
     try clear c19b0
     try clear c19b1
     try clear c20
     try clear c23
     try clear c24
     try clear hcz10_0
     try clear hcz10_1
     try clear hcz10_2
     try clear hcz12_0
     try clear hcz12_1
     try clear hcz12_2
     try clear hcz15_0
     try clear hcz15_1
     try clear hcz15_2
     try clear hcz21_0
     try clear hcz21_1
     try clear hcz21_2
     try clear hcz22_0
     try clear hcz22_1
     try clear hcz22_2
     try clear hcz24_0
     try clear hcz24_1
     try clear hcz24_2
     try clear hcz25_0
     try clear hcz25_1
     try clear hcz25_2
     try clear hfz10_0
     try clear hfz10_1
     try clear hfz10_2
     try clear hfz12_0
     try clear hfz12_1
     try clear hfz12_2
     try clear hfz15_0
     try clear hfz15_1
     try clear hfz15_2
     try clear hfz21_0
     try clear hfz21_1
     try clear hfz21_2
     try clear hfz22_0
     try clear hfz22_1
     try clear hfz22_2
     try clear hfz24_0
     try clear hfz24_1
     try clear hfz24_2
     try clear hfz25_0
     try clear hfz25_1
     try clear hfz25_2
     try clear p2
     obtain ⟨kq, x28_17, rfl, HA, HJ17, BK239, BK240, HB⟩ := hcut
     cases kq with
     | zero => exact absurd HA.out (by simp [annuitantref36_Match.j1])
     | succ kj17 =>
      have H := HA.out
      clear HA
      simp only [annuitantref36_Match.j1] at H
      by_cases c26 : x28_17 = true
      ·
       subst c26
       have H1 : (some (([] : List (S45)), 363)) = some (r1, r2) := by rw [if_pos rfl] at H; exact H
       clear H
       have H := H1
       clear H1
       simp only [Option.some.injEq, Prod.mk.injEq] at H
       obtain ⟨rfl, rfl⟩ := H
       go_wp2
       repeat (go_quiet (fail); try go_wp2)
       go_ret2
       exact ⟨_, by first | rfl | (simp [errW_none, errW_some] <;> rfl) | (simp [*, errW_none, errW_some] <;> rfl), by first | exact Kd.R_nil _ _ _ _ _ | exact Kd.N_nil _ _ _ _ _ | exact Kd.V_nil _ _ _ _ _ | exact Kd.Q_nil _ _ _ _ _ | exact Kd.S_nil _ _ _ _ _, by repeat (first | (with_reducible first | exact HB.out | apply below_alloc | apply pw_below_drewN | apply below_drew1 | refine below_set ?_ GE239.out | refine below_set ?_ GE240.out) | exact HB.out)⟩
      ·
       replace c26 := Bool.eq_false_iff.mpr c26
       subst c26
       have H1 : (annuitantref36_Match.l0 kj17 ([] : List (S45)) 0 a0_0 a0_1 l0_2 a1_0 a1_1 l1_2) = some (r1, r2) := by rw [if_neg (show ¬ (false = true) by decide)] at H; exact H
       clear H
       have H := H1
       clear H1
       have H' := Aside0.mk H
       clear H
       go_wp2
       repeat (go_quiet (fail); try go_wp2)
       go_loopg [6, 7] kj17 (fun kq v6 v7 w' => ∃ (x6_3 : List (S45)) (x7_3 : Int), v7 = .int .i64 x7_3 ∧ Aside0 (annuitantref36_Match.l0 kq x6_3 x7_3 a0_0 a0_1 l0_2 a1_0 a1_1 l1_2 = some (r1, r2)) ∧ Aside0 (kq ≤ kj17) ∧ Aside0 (Kd.R k45 45 w' w.heap.size (fun _ => True) v6 x6_3) ∧ Aside0 (w'.heap[gb239]? = some (.cells #[.int .i64 a0_0, .int .i64 a0_1, (.slice A0_2 l0_2.length c0_2)] 30 (0, 0))) ∧ Aside0 (w'.heap[gb240]? = some (.cells #[.int .i64 a1_0, .int .i64 a1_1, (.slice A1_2 l1_2.length c1_2)] 36 (0, 0))) ∧ Aside0 (Below w.heap.size w w'))
       case atStart => exact ⟨(([] : List (S45))), (0), (by first | rfl | (simp; done) | (simp [*]; done)), H', ⟨Nat.le_refl _⟩, ⟨by first | exact Kd.R_nil _ _ _ _ _ | exact Kd.N_nil _ _ _ _ _ | exact Kd.V_nil _ _ _ _ _ | exact Kd.Q_nil _ _ _ _ _ | exact Kd.S_nil _ _ _ _ _⟩, ⟨by (with_reducible repeat (first | refine blk_drewN ?_ _ | refine blk_drew ?_ | refine blk_alloc ?_ _)); exact BK239.out⟩, ⟨by (with_reducible repeat (first | refine blk_drewN ?_ _ | refine blk_drew ?_ | refine blk_alloc ?_ _)); exact BK240.out⟩, ⟨by repeat (first | (with_reducible first | exact HB.out | apply below_alloc | apply pw_below_drewN | apply below_drew1 | refine below_set ?_ GE239.out | refine below_set ?_ GE240.out) | exact HB.out)⟩⟩
       case round =>
        clear H'
        try clear c1
        try clear c2
        try clear p2
        try clear c7
        try clear c9
        try clear c14
        try clear c17
        try clear c19
        try clear c19b0
        try clear c19b1
        try clear c20
        try clear c23
        try clear c24
        try clear c26
        try clear hcz10_0
        try clear hcz10_1
        try clear hcz10_2
        try clear hcz12_0
        try clear hcz12_1
        try clear hcz12_2
        try clear hcz15_0
        try clear hcz15_1
        try clear hcz15_2
        try clear hcz21_0
        try clear hcz21_1
        try clear hcz21_2
        try clear hcz22_0
        try clear hcz22_1
        try clear hcz22_2
        try clear hcz24_0
        try clear hcz24_1
        try clear hcz24_2
        try clear hcz25_0
        try clear hcz25_1
        try clear hcz25_2
        try clear hfz10_0
        try clear hfz10_1
        try clear hfz10_2
        try clear hfz12_0
        try clear hfz12_1
        try clear hfz12_2
        try clear hfz15_0
        try clear hfz15_1
        try clear hfz15_2
        try clear hfz21_0
        try clear hfz21_1
        try clear hfz21_2
        try clear hfz22_0
        try clear hfz22_1
        try clear hfz22_2
        try clear hfz24_0
        try clear hfz24_1
        try clear hfz24_2
        try clear hfz25_0
        try clear hfz25_1
        try clear hfz25_2
        try clear p2
        obtain ⟨x6_3, x7_3, rfl, HA, HK3, HO_6, BK239, BK240, HB⟩ := hrel
        cases gk with
        | zero => exact absurd HA.out (by simp [annuitantref36_Match.l0])
        | succ k3 =>
         have H := HA.out
         clear HA
         simp only [annuitantref36_Match.l0] at H
         by_cases c27 : x7_3 < (l1_2.length : Int)
         ·
          rw [if_pos c27] at H
          have c27b0 : decide (x7_3 < (l1_2.length : Int)) = true := decide_eq_true c27
          clear c27
          have H' := Aside0.mk H
          clear H
          have hnb28 := NB240_239.out
          have hnc28 := NB239_240.out
          have hcz29_0 : wr.cell? ⟨gb240, 0, none⟩ = some (.int .i64 a1_0) := (blk_cell BK240.out 0).trans rfl
          have hcz29_1 : wr.cell? ⟨gb240, 1, none⟩ = some (.int .i64 a1_1) := (blk_cell BK240.out 1).trans rfl
          have hcz29_2 : wr.cell? ⟨gb240, 2, none⟩ = some (.slice A1_2 l1_2.length c1_2) := (blk_cell BK240.out 2).trans rfl
          have hfz29_0 := blk_frozen BK240.out 0
          have hfz29_1 := blk_frozen BK240.out 1
          have hfz29_2 := blk_frozen BK240.out 2
          go_wp2
          repeat (go_quiet (fail); try go_wp2)
          go_loopg [6, 8] k3 (fun kq v6 v8 w' => ∃ (x6_4 : List (S45)) (x8_4 : Int), v8 = .int .i64 x8_4 ∧ Aside0 (annuitantref36_Match.l1 kq x6_4 x7_3 x8_4 a0_0 a0_1 l0_2 a1_0 a1_1 l1_2 = some (r1, r2)) ∧ Aside0 (kq ≤ k3) ∧ Aside0 (Kd.R k45 45 w' w.heap.size (fun _ => True) v6 x6_4) ∧ Aside0 (w'.heap[gb239]? = some (.cells #[.int .i64 a0_0, .int .i64 a0_1, (.slice A0_2 l0_2.length c0_2)] 30 (0, 0))) ∧ Aside0 (w'.heap[gb240]? = some (.cells #[.int .i64 a1_0, .int .i64 a1_1, (.slice A1_2 l1_2.length c1_2)] 36 (0, 0))) ∧ Aside0 (Below w.heap.size w w'))
          case atStart => exact ⟨(x6_3), (0), (by first | rfl | (simp; done) | (simp [*]; done)), H', ⟨Nat.le_refl _⟩, ⟨by (with_reducible repeat (first | apply Kd.R_alloc | apply Kd.R_drewN | apply Kd.R_drew)); exact HO_6.out⟩, ⟨by (with_reducible repeat (first | refine blk_drewN ?_ _ | refine blk_drew ?_ | refine blk_alloc ?_ _)); exact BK239.out⟩, ⟨by (with_reducible repeat (first | refine blk_drewN ?_ _ | refine blk_drew ?_ | refine blk_alloc ?_ _)); exact BK240.out⟩, ⟨by repeat (first | (with_reducible first | exact HB.out | apply below_alloc | apply pw_below_drewN | apply below_drew1 | refine below_set ?_ GE239.out | refine below_set ?_ GE240.out) | exact HB.out)⟩⟩
          case round =>
           clear H'
           try clear c1
           try clear c2
           try clear p2
           try clear c7
           try clear c9
           try clear c14
           try clear c17
           try clear c19
           try clear c19b0
           try clear c19b1
           try clear c20
           try clear c23
           try clear c24
           try clear c26
           try clear c27
           try clear c27b0
           try clear c28
           try clear hcz10_0
           try clear hcz10_1
           try clear hcz10_2
           try clear hcz12_0
           try clear hcz12_1
           try clear hcz12_2
           try clear hcz15_0
           try clear hcz15_1
           try clear hcz15_2
           try clear hcz21_0
           try clear hcz21_1
           try clear hcz21_2
           try clear hcz22_0
           try clear hcz22_1
           try clear hcz22_2
           try clear hcz24_0
           try clear hcz24_1
           try clear hcz24_2
           try clear hcz25_0
           try clear hcz25_1
           try clear hcz25_2
           try clear hcz29_0
           try clear hcz29_1
           try clear hcz29_2
           try clear hfz10_0
           try clear hfz10_1
           try clear hfz10_2
           try clear hfz12_0
           try clear hfz12_1
           try clear hfz12_2
           try clear hfz15_0
           try clear hfz15_1
           try clear hfz15_2
           try clear hfz21_0
           try clear hfz21_1
           try clear hfz21_2
           try clear hfz22_0
           try clear hfz22_1
           try clear hfz22_2
           try clear hfz24_0
           try clear hfz24_1
           try clear hfz24_2
           try clear hfz25_0
           try clear hfz25_1
           try clear hfz25_2
           try clear hfz29_0
           try clear hfz29_1
           try clear hfz29_2
           try clear p2
           obtain ⟨x6_4, x8_4, rfl, HA, HK4, HO_6, BK239, BK240, HB⟩ := hrel
           cases gk with
           | zero => exact absurd HA.out (by simp [annuitantref36_Match.l1])
           | succ k4 =>
            have H := HA.out
            clear HA
            simp only [annuitantref36_Match.l1] at H
            by_cases c30 : x8_4 < (l0_2.length : Int)
            ·
             rw [if_pos c30] at H
             have c30b0 : decide (x8_4 < (l0_2.length : Int)) = true := decide_eq_true c30
             clear c30
             by_cases c31 : 0 ≤ x8_4
             ·
              rw [if_pos c31] at H
              have c31b0 : decide (0 ≤ x8_4) = true := decide_eq_true c31
              clear c31
              by_cases c32 : 0 ≤ x7_3
              ·
               rw [if_pos c32] at H
               have c32b0 : decide (0 ≤ x7_3) = true := decide_eq_true c32
               clear c32
               by_cases c33 : x7_3 < (l1_2.length : Int)
               ·
                rw [if_pos c33] at H
                have c33b0 : decide (x7_3 < (l1_2.length : Int)) = true := decide_eq_true c33
                clear c33
                by_cases c34 : ((rd_T45 l0_2 x8_4).f0) = ((rd_T52 l1_2 x7_3).f0)
                ·
                 rw [if_pos c34] at H
                 have c34b0 : (((rd_T45 l0_2 x8_4).f0) == ((rd_T52 l1_2 x7_3).f0)) = true := beq_iff_eq.mpr c34
                 have c34b1 : (((rd_T45 l0_2 x8_4).f0) != ((rd_T52 l1_2 x7_3).f0)) = false := bne_eq_false_iff_eq.mpr c34
                 clear c34
                 by_cases c35 : x6_4.length < 3518437208883
                 ·
                  rw [if_pos c35] at H
                  have LMc35 := Aside0.mk c35
                  clear c35
                  obtain ⟨y246, hy246⟩ : ∃ y_ : List (S45), y_ = (x6_4 ++ [(⟨(rd_T45 l0_2 x8_4).f0, (rd_T45 l0_2 x8_4).f1, (rd_T45 l0_2 x8_4).f2, (rd_T45 l0_2 x8_4).f3, (rd_T45 l0_2 x8_4).f4⟩ : S45)]) := ⟨_, rfl⟩
                  replace H : (annuitantref36_Match.l1 k4 y246 x7_3 (wrap64 (x8_4 + 1)) a0_0 a0_1 l0_2 a1_0 a1_1 l1_2) = some (r1, r2) := by first | (rw [hy246]; with_reducible exact H) | (have H2_ := (Option.bind_some _ _).symm.trans H; rw [hy246]; with_reducible exact H2_) | (have H2_ := (Option.bind_some _ _).symm.trans H; with_reducible exact H2_) | with_reducible exact H | (rw [hy246]; exact H) | exact H
                  have Ny246 := Aside0.mk hy246
                  clear hy246
                  have H' := Aside0.mk H
                  clear H
                  have hnb36 := NB239_240.out
                  have hnc36 := NB240_239.out
                  have hcz37_0 : wr.cell? ⟨gb239, 0, none⟩ = some (.int .i64 a0_0) := (blk_cell BK239.out 0).trans rfl
                  have hcz37_1 : wr.cell? ⟨gb239, 1, none⟩ = some (.int .i64 a0_1) := (blk_cell BK239.out 1).trans rfl
                  have hcz37_2 : wr.cell? ⟨gb239, 2, none⟩ = some (.slice A0_2 l0_2.length c0_2) := (blk_cell BK239.out 2).trans rfl
                  have hfz37_0 := blk_frozen BK239.out 0
                  have hfz37_1 := blk_frozen BK239.out 1
                  have hfz37_2 := blk_frozen BK239.out 2
                  have p243 : 0 ≤ (x8_4 : Int) := of_decide_eq_true (by first | (with_reducible assumption) | assumption)
                  have q243 : x8_4 < (l0_2.length : Int) := of_decide_eq_true (by first | (with_reducible assumption) | assumption)
                  obtain ⟨ad243, e243, hx243_0, hx243_1, hx243_2, hx243_3, hx243_4⟩ := at_T45 HR0_2.out x8_4 p243 q243
                  cases e243
                  replace hx243_0 := (HB.out.cell (World.block_lt_of_cell? w _ hx243_0)).trans hx243_0
                  replace hx243_1 := (HB.out.cell (World.block_lt_of_cell? w _ hx243_1)).trans hx243_1
                  replace hx243_2 := (HB.out.cell (World.block_lt_of_cell? w _ hx243_2)).trans hx243_2
                  replace hx243_3 := (HB.out.cell (World.block_lt_of_cell? w _ hx243_3)).trans hx243_3
                  replace hx243_4 := (HB.out.cell (World.block_lt_of_cell? w _ hx243_4)).trans hx243_4
                  replace p243 := eq_true p243
                  replace q243 := eq_true q243
                  have hcz38_0 : wr.cell? ⟨gb240, 0, none⟩ = some (.int .i64 a1_0) := (blk_cell BK240.out 0).trans rfl
                  have hcz38_1 : wr.cell? ⟨gb240, 1, none⟩ = some (.int .i64 a1_1) := (blk_cell BK240.out 1).trans rfl
                  have hcz38_2 : wr.cell? ⟨gb240, 2, none⟩ = some (.slice A1_2 l1_2.length c1_2) := (blk_cell BK240.out 2).trans rfl
                  have hfz38_0 := blk_frozen BK240.out 0
                  have hfz38_1 := blk_frozen BK240.out 1
                  have hfz38_2 := blk_frozen BK240.out 2
                  have p244 : 0 ≤ (x7_3 : Int) := of_decide_eq_true (by first | (with_reducible assumption) | assumption)
                  have q244 : x7_3 < (l1_2.length : Int) := of_decide_eq_true (by first | (with_reducible assumption) | assumption)
                  obtain ⟨ad244, e244, hx244_0, hx244_1⟩ := at_T52 HR1_2.out x7_3 p244 q244
                  cases e244
                  replace hx244_0 := (HB.out.cell (World.block_lt_of_cell? w _ hx244_0)).trans hx244_0
                  replace hx244_1 := (HB.out.cell (World.block_lt_of_cell? w _ hx244_1)).trans hx244_1
                  replace p244 := eq_true p244
                  replace q244 := eq_true q244
                  have p245 : 0 ≤ (x8_4 : Int) := of_decide_eq_true (by first | (with_reducible assumption) | assumption)
                  have q245 : x8_4 < (l0_2.length : Int) := of_decide_eq_true (by first | (with_reducible assumption) | assumption)
                  obtain ⟨ad245, e245, hx245_0, hx245_1, hx245_2, hx245_3, hx245_4⟩ := at_T45 HR0_2.out x8_4 p245 q245
                  obtain rfl : ad243 = ad245 := (by injection e245)
                  replace hx245_0 := (HB.out.cell (World.block_lt_of_cell? w _ hx245_0)).trans hx245_0
                  replace hx245_1 := (HB.out.cell (World.block_lt_of_cell? w _ hx245_1)).trans hx245_1
                  replace hx245_2 := (HB.out.cell (World.block_lt_of_cell? w _ hx245_2)).trans hx245_2
                  replace hx245_3 := (HB.out.cell (World.block_lt_of_cell? w _ hx245_3)).trans hx245_3
                  replace hx245_4 := (HB.out.cell (World.block_lt_of_cell? w _ hx245_4)).trans hx245_4
                  replace p245 := eq_true p245
                  replace q245 := eq_true q245
                  go_wp2_with (first | ((with_reducible refine gate_builtin (b := .append) (xs := #[.tmp 56, .tmp 62]) rfl ?_); at_builtin; refine Kd.R_append k45 (w0 := w) w.heap.size rfl (.tmp 56) (.tmp 62) 22 45 (.agg #[(.int .i64 0), (.int .i64 0), (.int .i64 0), (.int .i64 0), (.int .i64 0)]) 40 rfl Tryd.underlying22 info45 rfl (by decide) (by omega) u6 x6_4 (⟨(rd_T45 l0_2 x8_4).f0, (rd_T45 l0_2 x8_4).f1, (rd_T45 l0_2 x8_4).f2, (rd_T45 l0_2 x8_4).f3, (rd_T45 l0_2 x8_4).f4⟩ : S45) [.int .i64 ((rd_T45 l0_2 x8_4).f0), .int .i64 ((rd_T45 l0_2 x8_4).f1), .int .i64 ((rd_T45 l0_2 x8_4).f2), .int .i64 ((rd_T45 l0_2 x8_4).f3), .int .i64 ((rd_T45 l0_2 x8_4).f4)] (fun _ => True) (fun _ => False) rfl rfl ?aP (fun _ hk => hk.elim) ?aF ?aO ?aB ?aS ?aL ?_; (case aP => exact k45_mkM _ _ _ (⟨(rd_T45 l0_2 x8_4).f0, (rd_T45 l0_2 x8_4).f1, (rd_T45 l0_2 x8_4).f2, (rd_T45 l0_2 x8_4).f3, (rd_T45 l0_2 x8_4).f4⟩ : S45)); (case aB => exact (by repeat (first | (with_reducible first | exact HB.out | apply below_alloc | apply pw_below_drewN | apply below_drew1 | refine below_set ?_ GE239.out | refine below_set ?_ GE240.out) | exact HB.out))); (case aF => exact (fun _ _ => trivial)); (case aO => exact (by (with_reducible repeat (first | apply Kd.R_alloc | apply Kd.R_drewN | apply Kd.R_drew)); exact HO_6.out)); (case aS => exact (below_size (by repeat (first | (with_reducible first | exact HB.out | apply below_alloc | apply pw_below_drewN | apply below_drew1 | refine below_set ?_ GE239.out | refine below_set ?_ GE240.out) | exact HB.out)))); (case aL => have := LMc35.out; omega); intro v247 w39 ho hb hg hat; rw [← Ny246.out] at ho; have n0_ := Aside0.mk (blk_grown (g := gb239) (o := .cells #[.int .i64 a0_0, .int .i64 a0_1, .slice (some ad243) l0_2.length c0_2] 30 (0, 0)) (by (with_reducible repeat (first | refine blk_drewN ?_ _ | refine blk_drew ?_ | refine blk_alloc ?_ _)); exact BK239.out) hg (Kd.R_ne HO_6.out BK239.out (by decide))); have n1_ := Aside0.mk (blk_grown (g := gb240) (o := .cells #[.int .i64 a1_0, .int .i64 a1_1, .slice (some ad244) l1_2.length c1_2] 36 (0, 0)) (by (with_reducible repeat (first | refine blk_drewN ?_ _ | refine blk_drew ?_ | refine blk_alloc ?_ _)); exact BK240.out) hg (Kd.R_ne HO_6.out BK240.out (by decide))); have n2_ := Aside0.mk (hb); have n3_ := Aside0.mk (ho); clear BK239; clear BK240; clear HB; clear HO_6; have BK239 := n0_; have BK240 := n1_; have HB := n2_; have HO248 := n3_; clear n0_ n1_ n2_ n3_; clear ho hb hg hat))
                  repeat (go_quiet (first | ((with_reducible refine gate_builtin (b := .append) (xs := #[.tmp 56, .tmp 62]) rfl ?_); at_builtin; refine Kd.R_append k45 (w0 := w) w.heap.size rfl (.tmp 56) (.tmp 62) 22 45 (.agg #[(.int .i64 0), (.int .i64 0), (.int .i64 0), (.int .i64 0), (.int .i64 0)]) 40 rfl Tryd.underlying22 info45 rfl (by decide) (by omega) u6 x6_4 (⟨(rd_T45 l0_2 x8_4).f0, (rd_T45 l0_2 x8_4).f1, (rd_T45 l0_2 x8_4).f2, (rd_T45 l0_2 x8_4).f3, (rd_T45 l0_2 x8_4).f4⟩ : S45) [.int .i64 ((rd_T45 l0_2 x8_4).f0), .int .i64 ((rd_T45 l0_2 x8_4).f1), .int .i64 ((rd_T45 l0_2 x8_4).f2), .int .i64 ((rd_T45 l0_2 x8_4).f3), .int .i64 ((rd_T45 l0_2 x8_4).f4)] (fun _ => True) (fun _ => False) rfl rfl ?aP (fun _ hk => hk.elim) ?aF ?aO ?aB ?aS ?aL ?_; (case aP => exact k45_mkM _ _ _ (⟨(rd_T45 l0_2 x8_4).f0, (rd_T45 l0_2 x8_4).f1, (rd_T45 l0_2 x8_4).f2, (rd_T45 l0_2 x8_4).f3, (rd_T45 l0_2 x8_4).f4⟩ : S45)); (case aB => exact (by repeat (first | (with_reducible first | exact HB.out | apply below_alloc | apply pw_below_drewN | apply below_drew1 | refine below_set ?_ GE239.out | refine below_set ?_ GE240.out) | exact HB.out))); (case aF => exact (fun _ _ => trivial)); (case aO => exact (by (with_reducible repeat (first | apply Kd.R_alloc | apply Kd.R_drewN | apply Kd.R_drew)); exact HO_6.out)); (case aS => exact (below_size (by repeat (first | (with_reducible first | exact HB.out | apply below_alloc | apply pw_below_drewN | apply below_drew1 | refine below_set ?_ GE239.out | refine below_set ?_ GE240.out) | exact HB.out)))); (case aL => have := LMc35.out; omega); intro v247 w39 ho hb hg hat; rw [← Ny246.out] at ho; have n0_ := Aside0.mk (blk_grown (g := gb239) (o := .cells #[.int .i64 a0_0, .int .i64 a0_1, .slice (some ad243) l0_2.length c0_2] 30 (0, 0)) (by (with_reducible repeat (first | refine blk_drewN ?_ _ | refine blk_drew ?_ | refine blk_alloc ?_ _)); exact BK239.out) hg (Kd.R_ne HO_6.out BK239.out (by decide))); have n1_ := Aside0.mk (blk_grown (g := gb240) (o := .cells #[.int .i64 a1_0, .int .i64 a1_1, .slice (some ad244) l1_2.length c1_2] 36 (0, 0)) (by (with_reducible repeat (first | refine blk_drewN ?_ _ | refine blk_drew ?_ | refine blk_alloc ?_ _)); exact BK240.out) hg (Kd.R_ne HO_6.out BK240.out (by decide))); have n2_ := Aside0.mk (hb); have n3_ := Aside0.mk (ho); clear BK239; clear BK240; clear HB; clear HO_6; have BK239 := n0_; have BK240 := n1_; have HB := n2_; have HO248 := n3_; clear n0_ n1_ n2_ n3_; clear ho hb hg hat)); try go_wp2_with (first | ((with_reducible refine gate_builtin (b := .append) (xs := #[.tmp 56, .tmp 62]) rfl ?_); at_builtin; refine Kd.R_append k45 (w0 := w) w.heap.size rfl (.tmp 56) (.tmp 62) 22 45 (.agg #[(.int .i64 0), (.int .i64 0), (.int .i64 0), (.int .i64 0), (.int .i64 0)]) 40 rfl Tryd.underlying22 info45 rfl (by decide) (by omega) u6 x6_4 (⟨(rd_T45 l0_2 x8_4).f0, (rd_T45 l0_2 x8_4).f1, (rd_T45 l0_2 x8_4).f2, (rd_T45 l0_2 x8_4).f3, (rd_T45 l0_2 x8_4).f4⟩ : S45) [.int .i64 ((rd_T45 l0_2 x8_4).f0), .int .i64 ((rd_T45 l0_2 x8_4).f1), .int .i64 ((rd_T45 l0_2 x8_4).f2), .int .i64 ((rd_T45 l0_2 x8_4).f3), .int .i64 ((rd_T45 l0_2 x8_4).f4)] (fun _ => True) (fun _ => False) rfl rfl ?aP (fun _ hk => hk.elim) ?aF ?aO ?aB ?aS ?aL ?_; (case aP => exact k45_mkM _ _ _ (⟨(rd_T45 l0_2 x8_4).f0, (rd_T45 l0_2 x8_4).f1, (rd_T45 l0_2 x8_4).f2, (rd_T45 l0_2 x8_4).f3, (rd_T45 l0_2 x8_4).f4⟩ : S45)); (case aB => exact (by repeat (first | (with_reducible first | exact HB.out | apply below_alloc | apply pw_below_drewN | apply below_drew1 | refine below_set ?_ GE239.out | refine below_set ?_ GE240.out) | exact HB.out))); (case aF => exact (fun _ _ => trivial)); (case aO => exact (by (with_reducible repeat (first | apply Kd.R_alloc | apply Kd.R_drewN | apply Kd.R_drew)); exact HO_6.out)); (case aS => exact (below_size (by repeat (first | (with_reducible first | exact HB.out | apply below_alloc | apply pw_below_drewN | apply below_drew1 | refine below_set ?_ GE239.out | refine below_set ?_ GE240.out) | exact HB.out)))); (case aL => have := LMc35.out; omega); intro v247 w39 ho hb hg hat; rw [← Ny246.out] at ho; have n0_ := Aside0.mk (blk_grown (g := gb239) (o := .cells #[.int .i64 a0_0, .int .i64 a0_1, .slice (some ad243) l0_2.length c0_2] 30 (0, 0)) (by (with_reducible repeat (first | refine blk_drewN ?_ _ | refine blk_drew ?_ | refine blk_alloc ?_ _)); exact BK239.out) hg (Kd.R_ne HO_6.out BK239.out (by decide))); have n1_ := Aside0.mk (blk_grown (g := gb240) (o := .cells #[.int .i64 a1_0, .int .i64 a1_1, .slice (some ad244) l1_2.length c1_2] 36 (0, 0)) (by (with_reducible repeat (first | refine blk_drewN ?_ _ | refine blk_drew ?_ | refine blk_alloc ?_ _)); exact BK240.out) hg (Kd.R_ne HO_6.out BK240.out (by decide))); have n2_ := Aside0.mk (hb); have n3_ := Aside0.mk (ho); clear BK239; clear BK240; clear HB; clear HO_6; have BK239 := n0_; have BK240 := n1_; have HB := n2_; have HO248 := n3_; clear n0_ n1_ n2_ n3_; clear ho hb hg hat)))
                  go_roundg k4
                  case measure => have := HJ2.out; have := HJ17.out; have := HK3.out; have := HK4.out; omega
                  case rel => exact ⟨(y246), (wrap64 (x8_4 + 1)), (by first | rfl | (simp; done) | (simp [*]; done)), H', ⟨by have := HJ2.out; have := HJ17.out; have := HK3.out; have := HK4.out; omega⟩, ⟨by (with_reducible repeat (first | apply Kd.R_alloc | apply Kd.R_drewN | apply Kd.R_drew)); exact HO248.out⟩, ⟨by (with_reducible repeat (first | refine blk_drewN ?_ _ | refine blk_drew ?_ | refine blk_alloc ?_ _)); exact BK239.out⟩, ⟨by (with_reducible repeat (first | refine blk_drewN ?_ _ | refine blk_drew ?_ | refine blk_alloc ?_ _)); exact BK240.out⟩, ⟨by repeat (first | (with_reducible first | exact HB.out | apply below_alloc | apply pw_below_drewN | apply below_drew1 | refine below_set ?_ GE239.out | refine below_set ?_ GE240.out) | exact HB.out)⟩⟩
                 ·
                  rw [if_neg c35] at H
                  exact absurd H (by simp)
                ·
                 rw [if_neg c34] at H
                 have c34b0 : (((rd_T45 l0_2 x8_4).f0) == ((rd_T52 l1_2 x7_3).f0)) = false := beq_eq_false_iff_ne.mpr c34
                 have c34b1 : (((rd_T45 l0_2 x8_4).f0) != ((rd_T52 l1_2 x7_3).f0)) = true := bne_iff_ne.mpr c34
                 have H' := Aside0.mk H
                 clear H
                 have hnb40 := NB239_240.out
                 have hnc40 := NB240_239.out
                 have hcz41_0 : wr.cell? ⟨gb239, 0, none⟩ = some (.int .i64 a0_0) := (blk_cell BK239.out 0).trans rfl
                 have hcz41_1 : wr.cell? ⟨gb239, 1, none⟩ = some (.int .i64 a0_1) := (blk_cell BK239.out 1).trans rfl
                 have hcz41_2 : wr.cell? ⟨gb239, 2, none⟩ = some (.slice A0_2 l0_2.length c0_2) := (blk_cell BK239.out 2).trans rfl
                 have hfz41_0 := blk_frozen BK239.out 0
                 have hfz41_1 := blk_frozen BK239.out 1
                 have hfz41_2 := blk_frozen BK239.out 2
                 have p243 : 0 ≤ (x8_4 : Int) := of_decide_eq_true (by first | (with_reducible assumption) | assumption)
                 have q243 : x8_4 < (l0_2.length : Int) := of_decide_eq_true (by first | (with_reducible assumption) | assumption)
                 obtain ⟨ad243, e243, hx243_0, hx243_1, hx243_2, hx243_3, hx243_4⟩ := at_T45 HR0_2.out x8_4 p243 q243
                 cases e243
                 replace hx243_0 := (HB.out.cell (World.block_lt_of_cell? w _ hx243_0)).trans hx243_0
                 replace hx243_1 := (HB.out.cell (World.block_lt_of_cell? w _ hx243_1)).trans hx243_1
                 replace hx243_2 := (HB.out.cell (World.block_lt_of_cell? w _ hx243_2)).trans hx243_2
                 replace hx243_3 := (HB.out.cell (World.block_lt_of_cell? w _ hx243_3)).trans hx243_3
                 replace hx243_4 := (HB.out.cell (World.block_lt_of_cell? w _ hx243_4)).trans hx243_4
                 replace p243 := eq_true p243
                 replace q243 := eq_true q243
                 have hcz42_0 : wr.cell? ⟨gb240, 0, none⟩ = some (.int .i64 a1_0) := (blk_cell BK240.out 0).trans rfl
                 have hcz42_1 : wr.cell? ⟨gb240, 1, none⟩ = some (.int .i64 a1_1) := (blk_cell BK240.out 1).trans rfl
                 have hcz42_2 : wr.cell? ⟨gb240, 2, none⟩ = some (.slice A1_2 l1_2.length c1_2) := (blk_cell BK240.out 2).trans rfl
                 have hfz42_0 := blk_frozen BK240.out 0
                 have hfz42_1 := blk_frozen BK240.out 1
                 have hfz42_2 := blk_frozen BK240.out 2
                 have p244 : 0 ≤ (x7_3 : Int) := of_decide_eq_true (by first | (with_reducible assumption) | assumption)
                 have q244 : x7_3 < (l1_2.length : Int) := of_decide_eq_true (by first | (with_reducible assumption) | assumption)
                 obtain ⟨ad244, e244, hx244_0, hx244_1⟩ := at_T52 HR1_2.out x7_3 p244 q244
                 cases e244
                 replace hx244_0 := (HB.out.cell (World.block_lt_of_cell? w _ hx244_0)).trans hx244_0
                 replace hx244_1 := (HB.out.cell (World.block_lt_of_cell? w _ hx244_1)).trans hx244_1
                 replace p244 := eq_true p244
                 replace q244 := eq_true q244
                 go_wp2
                 repeat (go_quiet (fail); try go_wp2)
                 go_roundg k4
                 case measure => have := HJ2.out; have := HJ17.out; have := HK3.out; have := HK4.out; omega
                 case rel => exact ⟨(x6_4), (wrap64 (x8_4 + 1)), (by first | rfl | (simp; done) | (simp [*]; done)), H', ⟨by have := HJ2.out; have := HJ17.out; have := HK3.out; have := HK4.out; omega⟩, ⟨by (with_reducible repeat (first | apply Kd.R_alloc | apply Kd.R_drewN | apply Kd.R_drew)); exact HO_6.out⟩, ⟨by (with_reducible repeat (first | refine blk_drewN ?_ _ | refine blk_drew ?_ | refine blk_alloc ?_ _)); exact BK239.out⟩, ⟨by (with_reducible repeat (first | refine blk_drewN ?_ _ | refine blk_drew ?_ | refine blk_alloc ?_ _)); exact BK240.out⟩, ⟨by repeat (first | (with_reducible first | exact HB.out | apply below_alloc | apply pw_below_drewN | apply below_drew1 | refine below_set ?_ GE239.out | refine below_set ?_ GE240.out) | exact HB.out)⟩⟩
               ·
                rw [if_neg c33] at H
                exact absurd H (by simp)
              ·
               rw [if_neg c32] at H
               exact absurd H (by simp)
             ·
              rw [if_neg c31] at H
              exact absurd H (by simp)
            ·
             rw [if_neg c30] at H
             have c30b0 : decide (x8_4 < (l0_2.length : Int)) = false := decide_eq_false c30
             clear c30
             have H' := Aside0.mk H
             clear H
             have hnb43 := NB239_240.out
             have hnc43 := NB240_239.out
             have hcz44_0 : wr.cell? ⟨gb239, 0, none⟩ = some (.int .i64 a0_0) := (blk_cell BK239.out 0).trans rfl
             have hcz44_1 : wr.cell? ⟨gb239, 1, none⟩ = some (.int .i64 a0_1) := (blk_cell BK239.out 1).trans rfl
             have hcz44_2 : wr.cell? ⟨gb239, 2, none⟩ = some (.slice A0_2 l0_2.length c0_2) := (blk_cell BK239.out 2).trans rfl
             have hfz44_0 := blk_frozen BK239.out 0
             have hfz44_1 := blk_frozen BK239.out 1
             have hfz44_2 := blk_frozen BK239.out 2
             go_wp2
             repeat (go_quiet (fail); try go_wp2)
             go_roundg k4
             case measure => have := HJ2.out; have := HJ17.out; have := HK3.out; have := HK4.out; omega
             case rel => exact ⟨(x6_4), (wrap64 (x7_3 + 1)), (by first | rfl | (simp; done) | (simp [*]; done)), H', ⟨by have := HJ2.out; have := HJ17.out; have := HK3.out; have := HK4.out; omega⟩, ⟨by (with_reducible repeat (first | apply Kd.R_alloc | apply Kd.R_drewN | apply Kd.R_drew)); exact HO_6.out⟩, ⟨by (with_reducible repeat (first | refine blk_drewN ?_ _ | refine blk_drew ?_ | refine blk_alloc ?_ _)); exact BK239.out⟩, ⟨by (with_reducible repeat (first | refine blk_drewN ?_ _ | refine blk_drew ?_ | refine blk_alloc ?_ _)); exact BK240.out⟩, ⟨by repeat (first | (with_reducible first | exact HB.out | apply below_alloc | apply pw_below_drewN | apply below_drew1 | refine below_set ?_ GE239.out | refine below_set ?_ GE240.out) | exact HB.out)⟩⟩
         ·
          rw [if_neg c27] at H
          have c27b0 : decide (x7_3 < (l1_2.length : Int)) = false := decide_eq_false c27
          clear c27
          by_cases c45 : (x6_3.length : Int) = (l1_2.length : Int)
          ·
           rw [if_pos c45] at H
           have c45b0 : ((x6_3.length : Int) == (l1_2.length : Int)) = true := beq_iff_eq.mpr c45
           have c45b1 : ((x6_3.length : Int) != (l1_2.length : Int)) = false := bne_eq_false_iff_eq.mpr c45
           have c45b2 : (x6_3.length == l1_2.length) = true := by first | simpa using c45 | (simp at c45 ⊢; omega)
           clear c45
           simp only [Option.some.injEq, Prod.mk.injEq] at H
           obtain ⟨rfl, rfl⟩ := H
           have hnb46 := NB240_239.out
           have hnc46 := NB239_240.out
           have hcz47_0 : wr.cell? ⟨gb240, 0, none⟩ = some (.int .i64 a1_0) := (blk_cell BK240.out 0).trans rfl
           have hcz47_1 : wr.cell? ⟨gb240, 1, none⟩ = some (.int .i64 a1_1) := (blk_cell BK240.out 1).trans rfl
           have hcz47_2 : wr.cell? ⟨gb240, 2, none⟩ = some (.slice A1_2 l1_2.length c1_2) := (blk_cell BK240.out 2).trans rfl
           have hfz47_0 := blk_frozen BK240.out 0
           have hfz47_1 := blk_frozen BK240.out 1
           have hfz47_2 := blk_frozen BK240.out 2
           obtain ⟨Ao48, co48, eo48⟩ := Kd.R_slice HO_6.out
           subst eo48
           go_wp2
           repeat (go_quiet (fail); try go_wp2)
           go_ret2
           exact ⟨_, by first | rfl | (simp [errW_none, errW_some] <;> rfl) | (simp [*, errW_none, errW_some] <;> rfl), by (with_reducible repeat (first | apply Kd.R_alloc | apply Kd.R_drewN | apply Kd.R_drew)); exact HO_6.out, by repeat (first | (with_reducible first | exact HB.out | apply below_alloc | apply pw_below_drewN | apply below_drew1 | refine below_set ?_ GE239.out | refine below_set ?_ GE240.out) | exact HB.out)⟩
          ·
           rw [if_neg c45] at H
           have c45b0 : ((x6_3.length : Int) == (l1_2.length : Int)) = false := beq_eq_false_iff_ne.mpr c45
           have c45b1 : ((x6_3.length : Int) != (l1_2.length : Int)) = true := bne_iff_ne.mpr c45
           have c45b2 : (x6_3.length == l1_2.length) = false := by first | simpa using c45 | (simp at c45 ⊢; omega)
           simp only [Option.some.injEq, Prod.mk.injEq] at H
           obtain ⟨rfl, rfl⟩ := H
           have hnb49 := NB240_239.out
           have hnc49 := NB239_240.out
           have hcz50_0 : wr.cell? ⟨gb240, 0, none⟩ = some (.int .i64 a1_0) := (blk_cell BK240.out 0).trans rfl
           have hcz50_1 : wr.cell? ⟨gb240, 1, none⟩ = some (.int .i64 a1_1) := (blk_cell BK240.out 1).trans rfl
           have hcz50_2 : wr.cell? ⟨gb240, 2, none⟩ = some (.slice A1_2 l1_2.length c1_2) := (blk_cell BK240.out 2).trans rfl
           have hfz50_0 := blk_frozen BK240.out 0
           have hfz50_1 := blk_frozen BK240.out 1
           have hfz50_2 := blk_frozen BK240.out 2
           obtain ⟨Ao51, co51, eo51⟩ := Kd.R_slice HO_6.out
           subst eo51
           go_wp2
           repeat (go_quiet (fail); try go_wp2)
           go_ret2
           exact ⟨_, by first | rfl | (simp [errW_none, errW_some] <;> rfl) | (simp [*, errW_none, errW_some] <;> rfl), by first | exact Kd.R_nil _ _ _ _ _ | exact Kd.N_nil _ _ _ _ _ | exact Kd.V_nil _ _ _ _ _ | exact Kd.Q_nil _ _ _ _ _ | exact Kd.S_nil _ _ _ _ _, by repeat (first | (with_reducible first | exact HB.out | apply below_alloc | apply pw_below_drewN | apply below_drew1 | refine below_set ?_ GE239.out | refine below_set ?_ GE240.out) | exact HB.out)⟩

end Go.Proofs.YtndojpcjhkncgaaDoor.Q
end

section
namespace Go.Proofs.YtndojpcjhkncgaaDoor.Q
open Go.RowKit Go.Proofs.YtndojpcjhkncgaaDoorW.PrintWords
set_option linter.unusedVariables false
set_option linter.unusedSimpArgs false

/-- Increasing numbers. -/
def Inc (L : List S45) : Prop := L.Pairwise fun a b => a.f0 < b.f0
theorem inc_of : ∀ (l : List S45) (last tot : Int), ordersB last tot l = true → Inc l ∧ (∀ o ∈ l, last < o.f0) ∧ ∀ o ∈ l, 1 ≤ o.f0 ∧ o.f0 ≤ 1099511627776
  | [], _, _, _ => ⟨List.Pairwise.nil, by simp, by simp⟩
  | x :: l, last, tot, h => by
    simp only [ordersB, Bool.and_eq_true, decide_eq_true_eq] at h
    obtain ⟨h1, h2, h3⟩ := inc_of l _ _ h.2.2.2
    have hn := orderB_net h.1
    refine ⟨List.Pairwise.cons h2 h1, ?_, ?_⟩
    · intro o ho
      rcases List.mem_cons.mp ho with rfl | ho
      · exact h.2.1
      · have := h2 o ho; have := h.2.1; omega
    · intro o ho
      rcases List.mem_cons.mp ho with rfl | ho
      · omega
      · exact h3 o ho
/-- The orders with a number. -/
def withN (L : List S45) (t : Int) : List S45 := L.filter fun o => o.f0 == t
theorem with_one : ∀ (L : List S45), Inc L → ∀ (i : Nat) (h : i < L.length), withN L L[i].f0 = [L[i]]
  | [], _, i, h => by simp at h
  | x :: l, hI, i, h => by
    obtain ⟨h1, h2⟩ := List.pairwise_cons.mp hI
    cases i with
    | zero =>
      have : withN l x.f0 = [] := by
        unfold withN
        rw [List.filter_eq_nil_iff]
        intro o ho
        have := h1 o ho
        simp; omega
      simp only [List.getElem_cons_zero]
      unfold withN at this ⊢
      rw [List.filter_cons, this]
      simp
    | succ i =>
      have hl : i < l.length := by simpa using h
      have := h1 l[i] (List.getElem_mem hl)
      simp only [List.getElem_cons_succ]
      have ih := with_one l h2 i hl
      unfold withN at ih ⊢
      rw [List.filter_cons, ih]
      rw [if_neg (by simp; omega)]
theorem with_none {L : List S45} {t : Int} (h : ∀ o ∈ L, o.f0 ≠ t) : withN L t = [] := by
  unfold withN
  rw [List.filter_eq_nil_iff]
  intro o ho
  simpa using h o ho
theorem with_le (L : List S45) (hI : Inc L) (t : Int) : (withN L t).length ≤ 1 := by
  by_cases h : ∃ i, ∃ h : i < L.length, L[i].f0 = t
  · obtain ⟨i, hi, rfl⟩ := h
    rw [with_one L hI i hi]; simp
  · rw [with_none]; simp
    intro o ho he
    obtain ⟨i, hi, rfl⟩ := List.getElem_of_mem ho
    exact h ⟨i, hi, he⟩

theorem inc_lt {L : List S45} (hI : Inc L) {i j : Nat} (hij : i < j) (hj : j < L.length) : L[i].f0 < L[j].f0 := List.pairwise_iff_getElem.mp hI i j (by omega) hj hij

def Found (L : List S45) (t : Int) (r : Int × Bool) : Prop :=
  (∃ i : Nat, ∃ h : i < L.length, r = ((i : Int), true) ∧ L[i].f0 = t) ∨ (r.2 = false ∧ ∀ o ∈ L, o.f0 ≠ t)
theorem bs_l0 (L : List S45) (hI : Inc L) (hb : ∀ o ∈ L, 1 ≤ o.f0 ∧ o.f0 ≤ 1099511627776) (hL : L.length ≤ 1000) (t : Int) (ht : 1 ≤ t ∧ t ≤ 1099511627776) (d : Nat) : ∀ (lo hi : Nat), lo ≤ hi → hi ≤ L.length → hi - lo ≤ d →
    (∀ j (h : j < L.length), j < lo → L[j].f0 < t) → (∀ j (h : j < L.length), hi ≤ j → t ≤ L[j].f0) → ∃ r, Found L t r ∧ Ev (fun k => api_Order_int_at27.l0 k L t (L.length : Int) (lo : Int) (hi : Int)) r := by
  induction d with
  | zero =>
    intro lo hi h1 h2 h3 hlo hhi
    obtain rfl : lo = hi := by omega
    by_cases hn : lo < L.length
    · have hm := hb L[lo] (List.getElem_mem hn)
      have hge := hhi lo hn (Nat.le_refl _)
      by_cases he : L[lo].f0 = t
      · refine ⟨((lo : Int), true), .inl ⟨lo, hn, rfl, he⟩, Ev.step (fun k => by rw [api_Order_int_at27.l0]) (Ev.neg (by omega) (Ev.pos (by omega) (Ev.pos (by omega) (Ev.pos (by omega) ?_))))⟩
        rw [rdT L lo hn]
        refine Ev.const (show bank_Match_1.f _ _ _ _ _ _ = some _ from rfl) (Ev.ret ?_)
        rw [he, Int.sub_self, w64 (by omega) (by omega)]
        rfl
      · refine ⟨((lo : Int), false), .inr ⟨rfl, ?_⟩, Ev.step (fun k => by rw [api_Order_int_at27.l0]) (Ev.neg (by omega) (Ev.pos (by omega) (Ev.pos (by omega) (Ev.pos (by omega) ?_))))⟩
        · intro o ho hot
          obtain ⟨j, hj, rfl⟩ := List.getElem_of_mem ho
          rcases Nat.lt_trichotomy j lo with h | h | h
          · have := hlo j hj h; omega
          · subst h; exact he hot
          · have := inc_lt hI h hj; omega
        · rw [rdT L lo hn]
          refine Ev.const (show bank_Match_1.f _ _ _ _ _ _ = some _ from rfl) (Ev.ret ?_)
          rw [w64 (by omega) (by omega)]
          have : (L[lo].f0 - t == 0) = false := by simp; omega
          rw [this]
    · refine ⟨((lo : Int), false), .inr ⟨rfl, ?_⟩, Ev.step (fun k => by rw [api_Order_int_at27.l0]) (Ev.neg (by omega) (Ev.neg (by omega) (Ev.now _)))⟩
      intro o ho hot
      obtain ⟨j, hj, rfl⟩ := List.getElem_of_mem ho
      have := hlo j hj (by omega)
      omega
  | succ d ih =>
    intro lo hi h1 h2 h3 hlo hhi
    by_cases hlt : lo < hi
    · have hm : wrap64 ((IntKind.u64.wrap (wrap64 ((lo : Int) + (hi : Int)))) / 2) = (((lo + hi) / 2 : Nat) : Int) := by
        rw [w64 (n := (lo : Int) + (hi : Int)) (by omega) (by omega), IntKind.wrap_u64, w64 (by omega) (by omega)]
        omega
      have hml : (lo + hi) / 2 < L.length := by omega
      obtain ⟨m, hmm⟩ : ∃ m, (lo + hi) / 2 = m := ⟨_, rfl⟩
      rw [hmm] at hm hml
      have hb' := hb L[m] (List.getElem_mem hml)
      by_cases hc : L[m].f0 < t
      · obtain ⟨r, hr, he⟩ := ih (m + 1) hi (by omega) h2 (by omega) (fun j hj hjl => by
          rcases Nat.lt_or_ge j m with h | h
          · have := inc_lt hI h hml; omega
          · obtain rfl : j = m := by omega
            exact hc) hhi
        refine ⟨r, hr, Ev.step (fun k => by rw [api_Order_int_at27.l0]) (Ev.pos (by omega) ?_)⟩
        rw [hm]
        refine Ev.pos (by omega) (Ev.pos (by omega) ?_)
        rw [rdT L m hml]
        refine Ev.const (show bank_Match_1.f _ _ _ _ _ _ = some _ from rfl) ?_
        rw [w64 (n := L[m].f0 - t) (by omega) (by omega), w64 (n := (m : Int) + 1) (by omega) (by omega)]
        exact Ev.pos (by omega) he
      · obtain ⟨r, hr, he⟩ := ih lo m (by omega) (by omega) (by omega) hlo (fun j hj hjl => by
          rcases Nat.lt_or_ge m j with h | h
          · have := inc_lt hI h hj; omega
          · obtain rfl : j = m := by omega
            omega)
        refine ⟨r, hr, Ev.step (fun k => by rw [api_Order_int_at27.l0]) (Ev.pos (by omega) ?_)⟩
        rw [hm]
        refine Ev.pos (by omega) (Ev.pos (by omega) ?_)
        rw [rdT L m hml]
        refine Ev.const (show bank_Match_1.f _ _ _ _ _ _ = some _ from rfl) ?_
        rw [w64 (n := L[m].f0 - t) (by omega) (by omega)]
        exact Ev.neg (by omega) he
    · exact ih lo hi h1 h2 (by omega) hlo hhi
theorem bs_ev (L : List S45) (hI : Inc L) (hb : ∀ o ∈ L, 1 ≤ o.f0 ∧ o.f0 ≤ 1099511627776) (hL : L.length ≤ 1000) (t : Int) (ht : 1 ≤ t ∧ t ≤ 1099511627776) : ∃ r, Found L t r ∧ Ev (fun k => api_Order_int_at27.f k L t) r := by
  unfold api_Order_int_at27.f
  exact bs_l0 L hI hb hL t ht L.length 0 L.length (by omega) (by omega) (by omega) (by omega) (by omega)

/-- The orders that are returned. -/
def picked (L : List S45) (R : List S48) : List S45 := R.flatMap fun r => withN L r.f0
theorem picked_le (L : List S45) (hI : Inc L) : ∀ (R : List S48), (picked L R).length ≤ R.length
  | [] => by simp [picked]
  | r :: R => by
    have h1 := picked_le L hI R
    have h2 := with_le L hI r.f0
    unfold picked at h1 ⊢
    rw [List.flatMap_cons, List.length_append, List.length_cons]
    omega
def pickS (L : List S45) (R : List S48) : List S45 × Int := if (picked L R).length = R.length then (picked L R, 0) else ([], 6)
theorem pick_step (L : List S45) (hI : Inc L) (pre : List S45) (r : S48) (R : List S48) (all : Nat) (o : S45) (h : withN L r.f0 = [o]) (f : List S45 → List S45) : pre ++ picked L (r :: R) = (pre ++ [o]) ++ picked L R := by
  unfold picked
  rw [List.flatMap_cons, h, List.append_assoc]

theorem match_l0 (L : List S45) (n1 d1 : Int) (hI : Inc L) (hb : ∀ o ∈ L, 1 ≤ o.f0 ∧ o.f0 ≤ 1099511627776) (hL : L.length ≤ 1000) (R : List S48) (hR : R.length ≤ 1000) (hr : ∀ r ∈ R, 1 ≤ r.f0 ∧ r.f0 ≤ 1099511627776) (d : Nat) : ∀ (i : Nat) (pre : List S45), i + d = R.length → pre.length = i →
    Ev (fun k => bank_Match.l0 k pre R (R.length : Int) (i : Int) n1 d1 L) (if (picked L (R.drop i)).length = d then (pre ++ picked L (R.drop i), 0) else ([], 6)) := by
  induction d with
  | zero =>
    intro i pre hi hp
    rw [List.drop_eq_nil_of_le (by omega)]
    exact Ev.step (fun k => by rw [bank_Match.l0]) (Ev.neg (by omega) (Ev.ret (by simp [picked])))
  | succ d ih =>
    intro i pre hi hp
    have hlt : i < R.length := by omega
    rw [drop_get R i hlt]
    refine Ev.step (fun k => by rw [bank_Match.l0]) (Ev.pos (by omega) (Ev.pos (by omega) (Ev.pos (by omega) ?_)))
    rw [rdR R i hlt]
    obtain ⟨r, hf, he⟩ := bs_ev L hI hb hL R[i].f0 (hr _ (List.getElem_mem hlt))
    refine Ev.bind he ?_
    rcases hf with ⟨j, hj, rfl, hjt⟩ | ⟨h2, hno⟩
    · refine Ev.pos rfl (Ev.pos (by show (0 : Int) ≤ (j : Int); omega) (Ev.pos (by show (j : Int) < _; omega) (Ev.pos (by omega) ?_)))
      show Ev (fun k => bank_Match.l0 k (pre ++ [⟨(rd_T45 L (j : Int)).f0, (rd_T45 L (j : Int)).f1, (rd_T45 L (j : Int)).f2, (rd_T45 L (j : Int)).f3, (rd_T45 L (j : Int)).f4⟩]) R (R.length : Int) (wrap64 ((i : Int) + 1)) n1 d1 L) _
      rw [rdT L j hj, w64 (by omega) (by omega)]
      refine Ev.eq (ih (i + 1) (pre ++ [L[j]]) (by omega) (by simp; omega)) ?_
      have hw : withN L R[i].f0 = [L[j]] := by rw [← hjt]; exact with_one L hI j hj
      have e1 : (picked L (R[i] :: R.drop (i + 1))) = [L[j]] ++ picked L (R.drop (i + 1)) := by unfold picked; rw [List.flatMap_cons, hw]
      rw [e1]
      simp only [List.length_append, List.length_cons, List.length_nil]
      by_cases hc : (picked L (R.drop (i + 1))).length = d
      · rw [if_pos hc, if_pos (by omega), List.append_assoc]
      · rw [if_neg hc, if_neg (by omega)]
    · refine Ev.neg (by rw [h2]; simp) (Ev.ret ?_)
      have e1 : (picked L (R[i] :: R.drop (i + 1))) = picked L (R.drop (i + 1)) := by unfold picked; rw [List.flatMap_cons, with_none hno]; rfl
      have := picked_le L hI (R.drop (i + 1))
      rw [List.length_drop] at this
      rw [e1, if_neg (by omega)]

def matchS (n1 d1 : Int) (L : List S45) (n2 d2 : Int) (R : List S48) : List S45 × Int :=
  if validB n1 d1 L = true ∧ rightB n2 d2 R = true then (if n1 = n2 ∧ d1 ≤ d2 then pickS L R else ([], 363)) else ([], 2)
theorem backs_num : ∀ (l : List S48) (last : Int), backsB last l = true → ∀ o ∈ l, 1 ≤ o.f0 ∧ o.f0 ≤ 1099511627776
  | [], _, _, o, ho => by cases ho
  | x :: l, last, h, o, ho => by
    simp only [backsB, backB, countB, Bool.and_eq_true, decide_eq_true_eq] at h
    rcases List.mem_cons.mp ho with rfl | ho
    · omega
    · exact backs_num l _ h.2.2 o ho
theorem right_parts' {n d : Int} {L : List S48} (h : rightB n d L = true) : backsB 0 L = true ∧ datedB n d = true ∧ (L.length : Int) ≤ 1000 := by
  simp only [rightB, Bool.and_eq_true, decide_eq_true_eq] at h
  exact h
theorem sm0 (n1 d1 : Int) (L : List S45) (n2 d2 : Int) (R : List S48) : Ev (fun k => bank_Match.j0 k true n1 d1 L n2 d2 R) ([], 2) := by
  refine Ev.step (fun k => by rw [bank_Match.j0]) ?_
  refine Ev.pos rfl ?_
  exact Ev.ret rfl
theorem Match_ev (n1 d1 : Int) (L : List S45) (n2 d2 : Int) (R : List S48) (hL : (L.length : Int) ≤ 4611686018427387904) (hR : (R.length : Int) ≤ 4611686018427387904) : Ev (fun k => bank_Match.f k n1 d1 L n2 d2 R) (matchS n1 d1 L n2 d2 R) := by
  unfold bank_Match.f matchS
  refine Ev.bind (Valid_ev n1 d1 L hL) ?_
  cases h : validB n1 d1 L with
  | false => exact Ev.neg (by simp) (Ev.eq (sm0 n1 d1 L n2 d2 R) (by simp))
  | true =>
    refine Ev.pos rfl (Ev.bind (Right_ev n2 d2 R hR) ?_)
    cases h2 : rightB n2 d2 R with
    | false => exact Ev.eq (sm0 n1 d1 L n2 d2 R) (by simp)
    | true =>
      refine Ev.step (fun k => by rw [bank_Match.j0]) (Ev.neg (by simp) ?_)
      simp only [true_and, and_self, if_true]
      by_cases h3 : n1 = n2
      · refine Ev.pos h3 ?_
        by_cases h4 : d2 < d1
        · exact Ev.pos h4 (Ev.ret (by rw [if_neg (by omega)]))
        · refine Ev.neg h4 ?_
          rw [if_pos (by omega)]
          have hv := valid_orders h
          have hr := right_parts' h2
          have hi := inc_of L 0 0 hv.2.2
          refine Ev.eq (match_l0 L n1 d1 hi.1 hi.2.2 (by omega) R (by omega) (backs_num R 0 hr.1) R.length 0 [] (by omega) rfl) ?_
          simp [pickS]
      · exact Ev.neg h3 (Ev.ret (by rw [if_neg (by omega)]))

theorem refMatch_l1 (L : List S45) (n1 d1 n2 d2 : Int) (R : List S48) (hI : Inc L) (hL : L.length ≤ 1000) (hR : R.length ≤ 1000) (i : Nat) (hi : i < R.length) (res : List S45 → List S45 × Int) (hk : ∀ out, out.length ≤ i + 1 → Ev (fun k => annuitantref36_Match.l0 k out (((i + 1 : Nat) : Int)) n1 d1 L n2 d2 (R.map asRef)) (res out))
    (d : Nat) : ∀ (j : Nat) (out : List S45), j + d = L.length → out.length + (withN (L.drop j) R[i].f0).length ≤ i + 1 →
    Ev (fun k => annuitantref36_Match.l1 k out (i : Int) (j : Int) n1 d1 L n2 d2 (R.map asRef)) (res (out ++ withN (L.drop j) R[i].f0)) := by
  have hl : (R.map asRef).length = R.length := List.length_map ..
  induction d with
  | zero =>
    intro j out hj ho
    rw [List.drop_eq_nil_of_le (by omega)] at ho ⊢
    refine Ev.step (fun k => by rw [annuitantref36_Match.l1]) (Ev.neg (by omega) ?_)
    rw [w64 (by omega) (by omega)]
    simpa [withN] using hk out (by simpa [withN] using ho)
  | succ d ih =>
    intro j out hj ho
    have hlt : j < L.length := by omega
    rw [drop_get L j hlt] at ho ⊢
    refine Ev.step (fun k => by rw [annuitantref36_Match.l1]) (Ev.pos (by omega) (Ev.pos (by omega) (Ev.pos (by omega) (Ev.pos (by omega) ?_))))
    rw [rdT L j hlt, rdP (R.map asRef) i (by omega), List.getElem_map]
    rw [w64 (n := (j : Int) + 1) (by omega) (by omega)]
    by_cases hc : L[j].f0 = R[i].f0
    · have e1 : withN (L[j] :: L.drop (j + 1)) R[i].f0 = [L[j]] ++ withN (L.drop (j + 1)) R[i].f0 := by unfold withN; rw [List.filter_cons, if_pos (by simpa using hc)]; rfl
      rw [e1] at ho ⊢
      rw [List.length_append] at ho
      simp only [List.length_cons, List.length_nil] at ho
      refine Ev.pos hc (Ev.pos (by omega) ?_)
      refine Ev.eq (ih (j + 1) (out ++ [L[j]]) (by omega) (by rw [List.length_append]; simp only [List.length_cons, List.length_nil]; omega)) ?_
      rw [List.append_assoc]
    · have e1 : withN (L[j] :: L.drop (j + 1)) R[i].f0 = withN (L.drop (j + 1)) R[i].f0 := by unfold withN; rw [List.filter_cons, if_neg (by simpa using hc)]
      rw [e1] at ho ⊢
      exact Ev.neg hc (ih (j + 1) out (by omega) ho)
theorem refMatch_l0 (L : List S45) (n1 d1 n2 d2 : Int) (R : List S48) (hI : Inc L) (hL : L.length ≤ 1000) (hR : R.length ≤ 1000) (d : Nat) : ∀ (i : Nat) (out : List S45), i + d = R.length → out.length ≤ i →
    Ev (fun k => annuitantref36_Match.l0 k out (i : Int) n1 d1 L n2 d2 (R.map asRef)) (if (out ++ picked L (R.drop i)).length = R.length then (out ++ picked L (R.drop i), 0) else ([], 6)) := by
  have hl : (R.map asRef).length = R.length := List.length_map ..
  induction d with
  | zero =>
    intro i out hi ho
    rw [List.drop_eq_nil_of_le (by omega)]
    simp only [picked, List.flatMap_nil, List.append_nil]
    refine Ev.step (fun k => by rw [annuitantref36_Match.l0]) (Ev.neg (by omega) ?_)
    rw [hl]
    by_cases hc : out.length = R.length
    · exact Ev.pos (by omega) (Ev.ret (by rw [if_pos hc]))
    · exact Ev.neg (by omega) (Ev.ret (by rw [if_neg hc]))
  | succ d ih =>
    intro i out hi ho
    have hlt : i < R.length := by omega
    rw [drop_get R i hlt]
    refine Ev.step (fun k => by rw [annuitantref36_Match.l0]) (Ev.pos (by omega) ?_)
    have hw := with_le L hI R[i].f0
    have := refMatch_l1 L n1 d1 n2 d2 R hI hL hR i hlt (fun out => if (out ++ picked L (R.drop (i + 1))).length = R.length then (out ++ picked L (R.drop (i + 1)), 0) else ([], 6)) (fun out h => ih (i + 1) out (by omega) h) L.length 0 out (by omega) (by simpa using by omega)
    refine Ev.eq this ?_
    have e1 : (picked L (R[i] :: R.drop (i + 1))) = withN L R[i].f0 ++ picked L (R.drop (i + 1)) := by unfold picked; rw [List.flatMap_cons]
    rw [e1, List.drop_zero, List.append_assoc]
theorem sm1 (n1 d1 : Int) (L : List S45) (n2 d2 : Int) (R : List S52) : Ev (fun k => annuitantref36_Match.j0 k true n1 d1 L n2 d2 R) ([], 2) := by
  refine Ev.step (fun k => by rw [annuitantref36_Match.j0]) ?_
  refine Ev.pos rfl ?_
  exact Ev.ret rfl
theorem refMatch_ev (n1 d1 : Int) (L : List S45) (n2 d2 : Int) (R : List S48) (hL : (L.length : Int) ≤ 4611686018427387904) (hR : (R.length : Int) ≤ 4611686018427387904) : Ev (fun k => annuitantref36_Match.f k n1 d1 L n2 d2 (R.map asRef)) (matchS n1 d1 L n2 d2 R) := by
  unfold annuitantref36_Match.f matchS
  refine Ev.bind (refValid_ev n1 d1 L hL) ?_
  cases h : validB n1 d1 L with
  | false => exact Ev.neg (by simp) (Ev.eq (sm1 n1 d1 L n2 d2 (R.map asRef)) (by simp))
  | true =>
    refine Ev.pos rfl (Ev.bind (refRight_ev n2 d2 R hR) ?_)
    cases h2 : rightB n2 d2 R with
    | false => exact Ev.eq (sm1 n1 d1 L n2 d2 (R.map asRef)) (by simp)
    | true =>
      refine Ev.step (fun k => by rw [annuitantref36_Match.j0]) (Ev.neg (by simp) ?_)
      simp only [true_and, and_self, if_true]
      by_cases h3 : n1 = n2
      · refine Ev.pos h3 (Ev.step (fun k => by rw [annuitantref36_Match.j1]) ?_)
        by_cases h4 : d2 < d1
        · exact Ev.pos (by simpa using h4) (Ev.ret (by rw [if_neg (by omega)]))
        · refine Ev.neg (by simpa using h4) ?_
          rw [if_pos (by omega)]
          have hv := valid_orders h
          have hr := right_parts' h2
          have hi := inc_of L 0 0 hv.2.2
          refine Ev.eq (refMatch_l0 L n1 d1 n2 d2 R hi.1 (by omega) (by omega) R.length 0 [] (by omega) (by simp)) ?_
          simp [pickS]
      · exact Ev.neg h3 (Ev.step (fun k => by rw [annuitantref36_Match.j1]) (Ev.pos rfl (Ev.ret (by rw [if_neg (by omega)]))))
end Go.Proofs.YtndojpcjhkncgaaDoor.Q
end

section
namespace Go.Proofs.YtndojpcjhkncgaaDoor.Q
open Go.RowKit Go.Proofs.YtndojpcjhkncgaaDoorW.PrintWords
set_option linter.unusedVariables false
set_option linter.unusedSimpArgs false

/-- Whether a list has an order with a number, and the last one that has it. -/
def hasO (L : List S45) (t : Int) : Bool := L.any fun o => o.f0 == t
def findO (L : List S45) (t : Int) : S45 := L.foldl (fun r o => if (o.f0 == t) = true then o else r) z45
theorem hasO_snoc (L : List S45) (o : S45) (t : Int) : hasO (L ++ [o]) t = (hasO L t || o.f0 == t) := by simp [hasO]
theorem findO_snoc (L : List S45) (o : S45) (t : Int) : findO (L ++ [o]) t = if (o.f0 == t) = true then o else findO L t := by simp [findO, List.foldl_append]
theorem hasO_with (L : List S45) (t : Int) : hasO L t = !(withN L t).isEmpty := by
  unfold hasO withN
  induction L with
  | nil => rfl
  | cons x l ih =>
    rw [List.any_cons, List.filter_cons, ih]
    cases (x.f0 == t) <;> simp
theorem findO_with (L : List S45) (t : Int) : findO L t = (withN L t).foldl (fun _ o => o) z45 := by
  unfold findO withN
  rw [List.foldl_filter]
/-- Every returned number has an order. -/
def allHas (L : List S45) (R : List S48) : Bool := R.all fun r => hasO L r.f0
theorem picked_all (L : List S45) (hI : Inc L) : ∀ (R : List S48), ((picked L R).length = R.length ↔ allHas L R = true) ∧ (allHas L R = true → picked L R = R.map fun r => findO L r.f0)
  | [] => ⟨by simp [picked, allHas], fun _ => by simp [picked]⟩
  | r :: R => by
    obtain ⟨h1, h2⟩ := picked_all L hI R
    have h3 := picked_le L hI R
    have h4 := with_le L hI r.f0
    have hp : picked L (r :: R) = withN L r.f0 ++ picked L R := by unfold picked; rw [List.flatMap_cons]
    have ha : allHas L (r :: R) = (hasO L r.f0 && allHas L R) := by simp [allHas]
    rw [hp, ha, List.length_append, List.length_cons, hasO_with]
    match hw : withN L r.f0, h4 with
    | [], _ => exact ⟨by simp; omega, by simp⟩
    | [o], _ =>
      refine ⟨by simp only [List.length_cons, List.length_nil, List.isEmpty_cons, Bool.not_false, Bool.true_and]; rw [← h1]; omega, fun h => ?_⟩
      rw [h2 (by simpa using h), List.map_cons, findO_with, hw]
      rfl
    | _ :: _ :: _, h => simp at h
end Go.Proofs.YtndojpcjhkncgaaDoor.Q
end

section
namespace Go.Proofs.YtndojpcjhkncgaaDoor.Q
open Go Go.RowKit Go.Maps Go.Proofs.YtndojpcjhkncgaaDoorW.PrintWords
set_option linter.unusedVariables false
set_option linter.unusedSimpArgs false

/-- An order as a value, and as a datum. -/
def oV (o : S45) : Value := .agg #[.int .i64 o.f0, .int .i64 o.f1, .int .i64 o.f2, .int .i64 o.f3, .int .i64 o.f4]
def oD (o : S45) : DataW Unit := .agg [.lit (.int .i64 o.f0), .lit (.int .i64 o.f1), .lit (.int .i64 o.f2), .lit (.int .i64 o.f3), .lit (.int .i64 o.f4)]
def rO (v : Value) : Option (DataW Unit × List MemPlace) :=
  match v with
  | .agg ⟨[.int .i64 a, .int .i64 b, .int .i64 c, .int .i64 d, .int .i64 e]⟩ => some (oD ⟨a, b, c, d, e⟩, [])
  | _ => none
theorem rO_mk (o : S45) : rO (oV o) = some (oD o, []) := rfl
theorem rO_inv {v : Value} {y : DataW Unit × List MemPlace} (h : rO v = some y) : ∃ o, v = oV o ∧ y = (oD o, []) := by
  unfold rO at h
  split at h
  · rename_i a b c d e
    exact ⟨⟨a, b, c, d, e⟩, rfl, (Option.some.inj h).symm⟩
  · cases h
theorem oD_inj {o o' : S45} (h : oD o = oD o') : o = o' := by
  cases o; cases o'
  simp only [oD, DataW.agg.injEq, List.cons.injEq, DataW.lit.injEq, Lit.int.injEq, true_and, and_true] at h
  simp [h]
theorem mlaw : Keyed Tryd.prog 3 := int_keyed Tryd.underlying3
theorem mzero (w : World) : (zeroValue 45).run Tryd.prog w = .ok (oV z45) w := by kernel_rfl
def kw (n : Int) : Prop := (Lit.int .i64 n).wf = true
/-- The map behind b holds the orders of L, each under its number, the later ones over the earlier. -/
def MapO (w : World) (b : Nat) (L : List S45) : Prop :=
  ∃ n D, w.ownsMap Tryd.prog 3 rO b n D ∧ n ≤ L.length ∧ IsMap D ∧ (∀ k, has D (.int .i64 k) = hasO L k) ∧ ∀ k, D.atKey (.int .i64 k) (oD z45) = oD (findO L k)
theorem MapO.made (w : World) : MapO (w.alloc (.map #[] 0)) w.heap.size [] := ⟨0, .map [], World.ownsMap_made _ _ _ _, Nat.le_refl _, isMap_empty, fun k => rfl, fun k => rfl⟩
theorem MapO.lt {w : World} {b : Nat} {L : List S45} (h : MapO w b L) : b < w.heap.size := by
  obtain ⟨n, D, h, _⟩ := h
  exact h.lt
theorem MapO.below {w w' : World} {b : Nat} {L : List S45} (h : MapO w b L) (hb : Below w.heap.size w w') : MapO w' b L := by
  obtain ⟨n, D, h1, h2⟩ := h
  have hlt := h1.lt
  obtain ⟨es, clock, e1, e2⟩ := h1
  exact ⟨n, D, ⟨es, clock, (hb.block b hlt).trans e1, e2⟩, h2⟩
theorem MapO.look {w : World} {b : Nat} {L : List S45} (h : MapO w b L) (k : Int) (hk : kw k) :
    (Instr.lookup 43 (.map (some b)) (.int .i64 k) true).run Tryd.prog w = .ok (.tuple #[oV (findO L k), .bool (hasO L k)]) w := by
  obtain ⟨n, D, h1, _, _, h4, h5⟩ := h
  obtain ⟨v, ps, hr, hv⟩ := h1.look_ok mlaw Tryd.underlying43 (mzero w) (rO_mk z45) (keyOf_int_mk Tryd.underlying3 hk)
  rw [h5 k] at hv
  obtain ⟨o, rfl, he⟩ := rO_inv hv
  obtain rfl := oD_inj (Prod.mk.inj he).1
  rw [hr, h4]
theorem MapO.store {w : World} {b : Nat} {L : List S45} (h : MapO w b L) (o : S45) (hk : kw o.f0) (hL : L.length < maxLen) :
    ∃ w', (Instr.mapUpdate 43 (.map (some b)) (.int .i64 o.f0) (oV o)).run Tryd.prog w = .ok () w' ∧ MapO w' b (L ++ [o]) ∧ w.grownBy w' (some b) := by
  obtain ⟨n, D, h1, h2, h3, h4, h5⟩ := h
  obtain ⟨w', hr, hm, hg⟩ := h1.update mlaw Tryd.underlying43 (by omega) (keyOf_int_mk Tryd.underlying3 hk) (rO_mk o)
  refine ⟨w', hr, ⟨n + 1, _, hm, by simp; omega, h3.put _ _, fun k => ?_, fun k => ?_⟩, hg⟩
  · rw [hasO_snoc]
    by_cases hko : k = o.f0
    · subst hko
      rw [has_put_same h3 (show WideAt.IsKeyLit (.int .i64 o.f0) from trivial)]
      simp
    · rw [has_put_other (fun e => hko (by injection e)), h4]
      have : (o.f0 == k) = false := by simp; omega
      rw [this, Bool.or_false]
  · rw [findO_snoc]
    by_cases hko : k = o.f0
    · subst hko
      rw [atKey_put_same h3 (show WideAt.IsKeyLit (.int .i64 o.f0) from trivial), if_pos (by simp)]
    · rw [atKey_put_other (fun e => hko (by injection e)), h5, if_neg (by simp; omega)]
end Go.Proofs.YtndojpcjhkncgaaDoor.Q
end

section
namespace Go.Proofs.YtndojpcjhkncgaaDoor.Q
open Go.RowKit Go.Proofs.YtndojpcjhkncgaaDoorW.PrintWords Go.Proofs.YtndojpcjhkncgaaDoorW.PrintLast Go.Proofs.YtndojpcjhkncgaaDoorW.PrintMore
attribute [local go_sem] max2_int min2_int max_two min_two max_three min_three max_four min_four   -- for this text's walks alone
set_option linter.unusedVariables false
set_option linter.unusedSimpArgs false

theorem eqA45 (d : Nat) (w : World) (x0 y0 : Int) (x1 y1 : Int) (x2 y2 : Int) (x3 y3 : Int) (x4 y4 : Int) :
    (Op.equalIn (d + 2) 45 (.agg #[.int .i64 x0, .int .i64 x1, .int .i64 x2, .int .i64 x3, .int .i64 x4]) (.agg #[.int .i64 y0, .int .i64 y1, .int .i64 y2, .int .i64 y3, .int .i64 y4])).run Tryd.prog w = .ok (x0 == y0 && (x1 == y1 && (x2 == y2 && (x3 == y3 && (x4 == y4))))) w := by
  refine eqA_of Tryd.underlying45 (by kernel_rfl) ?_
  refine eqf_cons (by rfl) (by go_simp; rfl) (by go_simp; rfl) (by go_simp) ?_
  refine eqf_cons (by rfl) (by go_simp; rfl) (by go_simp; rfl) (by go_simp) ?_
  refine eqf_cons (by rfl) (by go_simp; rfl) (by go_simp; rfl) (by go_simp) ?_
  refine eqf_cons (by rfl) (by go_simp; rfl) (by go_simp; rfl) (by go_simp) ?_
  exact eqf_last (by rfl) (by go_simp; rfl) (by go_simp; rfl) (by go_simp)
end Go.Proofs.YtndojpcjhkncgaaDoor.Q
end

section
namespace Go.Proofs.YtndojpcjhkncgaaDoor.Q
open Go.RowKit Go.Proofs.YtndojpcjhkncgaaDoorW.PrintWords Go.Proofs.YtndojpcjhkncgaaDoorW.PrintLast Go.Proofs.YtndojpcjhkncgaaDoorW.PrintMore
attribute [local go_sem] max2_int min2_int max_two min_two max_three min_three max_four min_four   -- for this text's walks alone
set_option linter.unusedVariables false
set_option linter.unusedSimpArgs false

/-! ### annuitantlaw36_two: function 17 -/
def annuitantlaw36_two.f  : Option (Int × Int × (List (S45)) × Int × Int × (List (S48))) := some (7, 100, (([(⟨3, 55, 1000, 200, 800⟩ : S45), (⟨4, 56, 50, 0, 50⟩ : S45)] : List (S45))), 7, 102, (([(⟨4, 2⟩ : S48)] : List (S48))))
set_option maxHeartbeats 8000000 in
set_option maxRecDepth 100000 in
theorem annuitantlaw36_two.calls  (r1 : Int) (r2 : Int) (r3 : List (S45)) (r4 : Int) (r5 : Int) (r6 : List (S48)) (w : World) (h : annuitantlaw36_two.f  = some (r1, r2, r3, r4, r5, r6)) :
  Calls Tryd.prog 17 #[] w fun e w' => ∃ v2_ v5_ : Value, e = .returned (.tuple #[.agg #[.int .i64 r1, .int .i64 r2, v2_], .agg #[.int .i64 r4, .int .i64 r5, v5_]]) ∧ Kd.R k45 45 w' w.heap.size (fun _ => True) v2_ r3 ∧ Kd.R k48 48 w' w.heap.size (fun _ => True) v5_ r6 ∧ Below w.heap.size w w' := by
 have hu24 := Tryd.underlying24
 have hu27 := Tryd.underlying27
 have hu45 := Tryd.underlying45
 have hu48 := Tryd.underlying48
 have HB := Aside0.mk (Below.refl w.heap.size w)
 have H : (some (7, 100, (([(⟨3, 55, 1000, 200, 800⟩ : S45), (⟨4, 56, 50, 0, 50⟩ : S45)] : List (S45))), 7, 102, (([(⟨4, 2⟩ : S48)] : List (S48))))) = some (r1, r2, r3, r4, r5, r6) := h
 clear h
 obtain ⟨y152, hy152⟩ : ∃ y_ : List (S45), y_ = (([(⟨3, 55, 1000, 200, 800⟩ : S45), (⟨4, 56, 50, 0, 50⟩ : S45)] : List (S45))) := ⟨_, rfl⟩
 replace H : (some (7, 100, y152, 7, 102, (([(⟨4, 2⟩ : S48)] : List (S48))))) = some (r1, r2, r3, r4, r5, r6) := by first | (rw [hy152]; with_reducible exact H) | (have H2_ := (Option.bind_some _ _).symm.trans H; rw [hy152]; with_reducible exact H2_) | (have H2_ := (Option.bind_some _ _).symm.trans H; with_reducible exact H2_) | with_reducible exact H | (rw [hy152]; exact H) | exact H
 have Ny152 := Aside0.mk hy152
 clear hy152
 obtain ⟨y156, hy156⟩ : ∃ y_ : List (S48), y_ = (([(⟨4, 2⟩ : S48)] : List (S48))) := ⟨_, rfl⟩
 replace H : (some (7, 100, y152, 7, 102, y156)) = some (r1, r2, r3, r4, r5, r6) := by first | (rw [hy156]; with_reducible exact H) | (have H2_ := (Option.bind_some _ _).symm.trans H; rw [hy156]; with_reducible exact H2_) | (have H2_ := (Option.bind_some _ _).symm.trans H; with_reducible exact H2_) | with_reducible exact H | (rw [hy156]; exact H) | exact H
 have Ny156 := Aside0.mk hy156
 clear hy156
 simp only [Option.some.injEq, Prod.mk.injEq] at H
 obtain ⟨rfl, rfl, rfl, rfl, rfl, rfl⟩ := H
 go_enter Tryd.func17, Tryd.ntmps17
 go_wp2_with (first | ((with_reducible refine gate_dst (N := 0) rfl ?_); refine box_event ?hg (N := 0) ?hd (cs := #[.int .i64 0, .int .i64 0, .slice none 0 0]) (t := 24) ?hr ?_; (case hd => rfl); (case hg => rfl); (case hr => first | (go_simp; done) | (go_simp; rfl)); intro gb150 hg w1 hbox hb; have n0_ := Aside0.mk (below_step (by repeat (first | (with_reducible first | exact HB.out | apply below_alloc | apply pw_below_drewN | apply below_drew1) | exact HB.out)) hb); have n1_ := Aside0.mk (hbox); have n2_ := Aside0.mk ((by rw [hg]; exact (below_size (by repeat (first | (with_reducible first | exact HB.out | apply below_alloc | apply pw_below_drewN | apply below_drew1) | exact HB.out))) : w.heap.size ≤ gb150)); have n3_ := Aside0.mk ((by rw [hg]; exact (below_size (by repeat (first | (with_reducible first | exact HB.out | apply below_alloc | apply pw_below_drewN | apply below_drew1) | exact HB.out))) : w.heap.size ≤ gb150)); clear HB; have HB := n0_; have BK150 := n1_; have GW150 := n2_; have GE150 := n3_; clear n0_ n1_ n2_ n3_; clear hb hbox hg) | ((with_reducible refine gate_dst (N := 1) rfl ?_); refine box_event ?hg (N := 1) ?hd (cs := #[.int .i64 0, .int .i64 0, .slice none 0 0]) (t := 27) ?hr ?_; (case hd => rfl); (case hg => rfl); (case hr => first | (go_simp; done) | (go_simp; rfl)); intro gb151 hg w2 hbox hb; have n0_ := Aside0.mk (blk_below (g := gb150) (o := .cells #[.int .i64 0, .int .i64 0, .slice none 0 0] 24 (0, 0)) (by (with_reducible repeat (first | refine blk_drewN ?_ _ | refine blk_drew ?_ | refine blk_alloc ?_ _)); exact BK150.out) hb); have n1_ := Aside0.mk (below_step (by repeat (first | (with_reducible first | exact HB.out | apply below_alloc | apply pw_below_drewN | apply below_drew1 | refine below_set ?_ GE150.out) | exact HB.out)) hb); have n2_ := Aside0.mk (hbox); have n3_ := Aside0.mk ((by rw [hg]; exact (below_size (by repeat (first | (with_reducible first | exact HB.out | apply below_alloc | apply pw_below_drewN | apply below_drew1 | refine below_set ?_ GE150.out) | exact HB.out))) : w.heap.size ≤ gb151)); have n4_ := Aside0.mk ((by rw [hg]; exact (below_size (by repeat (first | (with_reducible first | exact HB.out | apply below_alloc | apply pw_below_drewN | apply below_drew1 | refine below_set ?_ GE150.out) | exact HB.out))) : w.heap.size ≤ gb151)); have n5_ := Aside0.mk ((by rw [hg]; exact Nat.ne_of_lt (blk_lt (g := gb150) (o := .cells #[.int .i64 0, .int .i64 0, .slice none 0 0] 24 (0, 0)) (by (with_reducible repeat (first | refine blk_drewN ?_ _ | refine blk_drew ?_ | refine blk_alloc ?_ _)); exact BK150.out)) : gb150 ≠ gb151)); have n6_ := Aside0.mk ((by rw [hg]; exact Nat.ne_of_gt (blk_lt (g := gb150) (o := .cells #[.int .i64 0, .int .i64 0, .slice none 0 0] 24 (0, 0)) (by (with_reducible repeat (first | refine blk_drewN ?_ _ | refine blk_drew ?_ | refine blk_alloc ?_ _)); exact BK150.out)) : gb151 ≠ gb150)); clear BK150; clear HB; have BK150 := n0_; have HB := n1_; have BK151 := n2_; have GW151 := n3_; have GE151 := n4_; have NB150_151 := n5_; have NB151_150 := n6_; clear n0_ n1_ n2_ n3_ n4_ n5_ n6_; clear hb hbox hg) | ((with_reducible refine gate_dst (N := 5) rfl ?_); refine Kd.R_lit k45 _ 45 ?hg (N := 5) ?hd (xs := ([(⟨3, 55, 1000, 200, 800⟩ : S45), (⟨4, 56, 50, 0, 50⟩ : S45)] : List (S45))) (inner := [.int .i64 3, .int .i64 55, .int .i64 1000, .int .i64 200, .int .i64 800, .int .i64 4, .int .i64 56, .int .i64 50, .int .i64 0, .int .i64 50]) (ok := fun _ => True) (okp := fun _ => True) ?hr ?hp (fun _ hk => hk) trivial (Below.refl _ _) (Nat.le_refl _) (by simp) ?_; (case hd => rfl); (case hg => rfl); (case hr => first | (go_simp; done) | (go_simp; rfl)); (case hp => exact (Reps.c5 (show Kd.M k45 _ _ _ (⟨3, 55, 1000, 200, 800⟩ : S45) [.int .i64 3, .int .i64 55, .int .i64 1000, .int .i64 200, .int .i64 800] from (k45_mkM _ _ _ (⟨3, 55, 1000, 200, 800⟩ : S45) )) (Reps.c5 (show Kd.M k45 _ _ _ (⟨4, 56, 50, 0, 50⟩ : S45) [.int .i64 4, .int .i64 56, .int .i64 50, .int .i64 0, .int .i64 50] from (k45_mkM _ _ _ (⟨4, 56, 50, 0, 50⟩ : S45) )) (Reps.none _ _)))); intro v153 w3 ho4 hb hg_ hnew_; clear hg_ hnew_; (first | rw [← Ny152.out] at ho4 | (simp only [Int.reduceToNat] at ho4; rw [← Ny152.out] at ho4)); have n0_ := Aside0.mk (Kd.R_lower ho4 (below_size (by repeat (first | (with_reducible first | exact HB.out | apply below_alloc | apply pw_below_drewN | apply below_drew1 | refine below_set ?_ GE150.out | refine below_set ?_ GE151.out) | exact HB.out)))); have n1_ := Aside0.mk (blk_below (g := gb150) (o := .cells #[.int .i64 0, .int .i64 0, .slice none 0 0] 24 (0, 0)) (by (with_reducible repeat (first | refine blk_drewN ?_ _ | refine blk_drew ?_ | refine blk_alloc ?_ _)); exact BK150.out) hb); have n2_ := Aside0.mk (blk_below (g := gb151) (o := .cells #[.int .i64 0, .int .i64 0, .slice none 0 0] 27 (0, 0)) (by (with_reducible repeat (first | refine blk_drewN ?_ _ | refine blk_drew ?_ | refine blk_alloc ?_ _)); exact BK151.out) hb); have n3_ := Aside0.mk (below_step (by repeat (first | (with_reducible first | exact HB.out | apply below_alloc | apply pw_below_drewN | apply below_drew1 | refine below_set ?_ GE150.out | refine below_set ?_ GE151.out) | exact HB.out)) hb); clear BK150; clear BK151; clear HB; have HO154 := n0_; have BK150 := n1_; have BK151 := n2_; have HB := n3_; clear n0_ n1_ n2_ n3_; clear hb ho4; obtain ⟨Ao5, co5, eo5⟩ := Kd.R_slice HO154.out; subst eo5) | ((with_reducible refine gate_dst (N := 2) rfl ?_); refine box_event ?hg (N := 2) ?hd (cs := #[.int .i64 0, .int .i64 0, .slice none 0 0]) (t := 24) ?hr ?_; (case hd => rfl); (case hg => rfl); (case hr => first | (go_simp; done) | (go_simp; rfl)); intro gb155 hg w6 hbox hb; have n0_ := Aside0.mk (Kd.R_below (by (with_reducible repeat (first | apply Kd.R_alloc | apply Kd.R_drewN | apply Kd.R_drew)); exact HO154.out) hb); have n1_ := Aside0.mk (blk_below (g := gb150) (o := .cells #[.int .i64 0, .int .i64 0, .slice none 0 0] 24 (0, 0)) (by (with_reducible repeat (first | refine blk_drewN ?_ _ | refine blk_drew ?_ | refine blk_alloc ?_ _)); exact BK150.out) hb); have n2_ := Aside0.mk (blk_below (g := gb151) (o := .cells #[.int .i64 0, .int .i64 0, .slice none 0 0] 27 (0, 0)) (by (with_reducible repeat (first | refine blk_drewN ?_ _ | refine blk_drew ?_ | refine blk_alloc ?_ _)); exact BK151.out) hb); have n3_ := Aside0.mk (below_step (by repeat (first | (with_reducible first | exact HB.out | apply below_alloc | apply pw_below_drewN | apply below_drew1 | refine below_set ?_ GE150.out | refine below_set ?_ GE151.out) | exact HB.out)) hb); have n4_ := Aside0.mk (hbox); have n5_ := Aside0.mk ((by rw [hg]; exact (below_size (by repeat (first | (with_reducible first | exact HB.out | apply below_alloc | apply pw_below_drewN | apply below_drew1 | refine below_set ?_ GE150.out | refine below_set ?_ GE151.out) | exact HB.out))) : w.heap.size ≤ gb155)); have n6_ := Aside0.mk ((by rw [hg]; exact (below_size (by repeat (first | (with_reducible first | exact HB.out | apply below_alloc | apply pw_below_drewN | apply below_drew1 | refine below_set ?_ GE150.out | refine below_set ?_ GE151.out) | exact HB.out))) : w.heap.size ≤ gb155)); have n7_ := Aside0.mk ((by rw [hg]; exact Nat.ne_of_lt (blk_lt (g := gb150) (o := .cells #[.int .i64 0, .int .i64 0, .slice none 0 0] 24 (0, 0)) (by (with_reducible repeat (first | refine blk_drewN ?_ _ | refine blk_drew ?_ | refine blk_alloc ?_ _)); exact BK150.out)) : gb150 ≠ gb155)); have n8_ := Aside0.mk ((by rw [hg]; exact Nat.ne_of_gt (blk_lt (g := gb150) (o := .cells #[.int .i64 0, .int .i64 0, .slice none 0 0] 24 (0, 0)) (by (with_reducible repeat (first | refine blk_drewN ?_ _ | refine blk_drew ?_ | refine blk_alloc ?_ _)); exact BK150.out)) : gb155 ≠ gb150)); have n9_ := Aside0.mk ((by rw [hg]; exact Nat.ne_of_lt (blk_lt (g := gb151) (o := .cells #[.int .i64 0, .int .i64 0, .slice none 0 0] 27 (0, 0)) (by (with_reducible repeat (first | refine blk_drewN ?_ _ | refine blk_drew ?_ | refine blk_alloc ?_ _)); exact BK151.out)) : gb151 ≠ gb155)); have n10_ := Aside0.mk ((by rw [hg]; exact Nat.ne_of_gt (blk_lt (g := gb151) (o := .cells #[.int .i64 0, .int .i64 0, .slice none 0 0] 27 (0, 0)) (by (with_reducible repeat (first | refine blk_drewN ?_ _ | refine blk_drew ?_ | refine blk_alloc ?_ _)); exact BK151.out)) : gb155 ≠ gb151)); clear HO154; clear BK150; clear BK151; clear HB; have HO154 := n0_; have BK150 := n1_; have BK151 := n2_; have HB := n3_; have BK155 := n4_; have GW155 := n5_; have GE155 := n6_; have NB150_155 := n7_; have NB155_150 := n8_; have NB151_155 := n9_; have NB155_151 := n10_; clear n0_ n1_ n2_ n3_ n4_ n5_ n6_ n7_ n8_ n9_ n10_; clear hb hbox hg; have hnb7 := NB155_150.out; have hnc7 := NB150_155.out; have hnb8 := NB155_151.out; have hnc8 := NB151_155.out; have hcz9_0 : w6.cell? ⟨gb155, 0, none⟩ = some (.int .i64 0) := (blk_cell BK155.out 0).trans rfl; have hcz9_1 : w6.cell? ⟨gb155, 1, none⟩ = some (.int .i64 0) := (blk_cell BK155.out 1).trans rfl; have hcz9_2 : w6.cell? ⟨gb155, 2, none⟩ = some (.slice none 0 0) := (blk_cell BK155.out 2).trans rfl; have hfz9_0 := blk_frozen BK155.out 0; have hfz9_1 := blk_frozen BK155.out 1; have hfz9_2 := blk_frozen BK155.out 2) | ((with_reducible refine gate_dst (N := 9) rfl ?_); refine Kd.R_lit k48 _ 48 ?hg (N := 9) ?hd (xs := ([(⟨4, 2⟩ : S48)] : List (S48))) (inner := [.int .i64 4, .int .i64 2]) (ok := fun _ => True) (okp := fun _ => True) ?hr ?hp (fun _ hk => hk) trivial (Below.refl _ _) (Nat.le_refl _) (by simp) ?_; (case hd => rfl); (case hg => rfl); (case hr => first | (go_simp; done) | (go_simp; rfl)); (case hp => exact (Reps.c2 (show Kd.M k48 _ _ _ (⟨4, 2⟩ : S48) [.int .i64 4, .int .i64 2] from (k48_mkM _ _ _ (⟨4, 2⟩ : S48) )) (Reps.none _ _))); intro v157 w10 ho11 hb hg_ hnew_; clear hg_ hnew_; (first | rw [← Ny156.out] at ho11 | (simp only [Int.reduceToNat] at ho11; rw [← Ny156.out] at ho11)); have n0_ := Aside0.mk (Kd.R_below (by (with_reducible repeat (first | apply Kd.R_alloc | apply Kd.R_drewN | apply Kd.R_drew)); exact (Kd.R_mono (Kd.R_far (p := ⟨gb155, 2, none⟩) (Kd.R_far (p := ⟨gb155, 1, none⟩) (Kd.R_far (p := ⟨gb155, 0, none⟩) (Kd.R_types HO154.out BK155.out (by decide)) (fun _ hk => hk.2) (.int .i64 7)) (fun _ hk => hk.2) (.int .i64 100)) (fun _ hk => hk.2) (.slice Ao5 y152.length co5)) (fun _ h_ => h_.1))) hb); have n1_ := Aside0.mk (Kd.R_lower ho11 (below_size (by repeat (first | (with_reducible first | exact HB.out | apply below_alloc | apply pw_below_drewN | apply below_drew1 | refine below_set ?_ GE150.out | refine below_set ?_ GE151.out | refine below_set ?_ GE155.out) | exact HB.out)))); have n2_ := Aside0.mk (blk_below (g := gb150) (o := .cells #[.int .i64 0, .int .i64 0, .slice none 0 0] 24 (0, 0)) (by (with_reducible repeat (first | refine blk_drewN ?_ _ | refine blk_drew ?_ | refine blk_alloc ?_ _ | refine blk_far ?_ NB150_155.out _)); exact BK150.out) hb); have n3_ := Aside0.mk (blk_below (g := gb151) (o := .cells #[.int .i64 0, .int .i64 0, .slice none 0 0] 27 (0, 0)) (by (with_reducible repeat (first | refine blk_drewN ?_ _ | refine blk_drew ?_ | refine blk_alloc ?_ _ | refine blk_far ?_ NB151_155.out _)); exact BK151.out) hb); have n4_ := Aside0.mk (blk_below (g := gb155) (o := .cells #[.int .i64 7, .int .i64 100, .slice Ao5 y152.length co5] 24 (0, 0)) (by (with_reducible repeat (first | refine blk_drewN ?_ _ | refine blk_drew ?_ | refine blk_alloc ?_ _)); refine blk_put (cs := #[.int .i64 7, .int .i64 100, .slice none 0 0]) ?_ 2 _ rfl; (with_reducible repeat (first | refine blk_drewN ?_ _ | refine blk_drew ?_ | refine blk_alloc ?_ _)); refine blk_put (cs := #[.int .i64 7, .int .i64 0, .slice none 0 0]) ?_ 1 _ rfl; (with_reducible repeat (first | refine blk_drewN ?_ _ | refine blk_drew ?_ | refine blk_alloc ?_ _)); refine blk_put (cs := #[.int .i64 0, .int .i64 0, .slice none 0 0]) ?_ 0 _ rfl; (with_reducible repeat (first | refine blk_drewN ?_ _ | refine blk_drew ?_ | refine blk_alloc ?_ _)); exact BK155.out) hb); have n5_ := Aside0.mk (below_step (by repeat (first | (with_reducible first | exact HB.out | apply below_alloc | apply pw_below_drewN | apply below_drew1 | refine below_set ?_ GE150.out | refine below_set ?_ GE151.out | refine below_set ?_ GE155.out) | exact HB.out)) hb); clear HO154; clear BK150; clear BK151; clear BK155; clear HB; have HO154 := n0_; have HO158 := n1_; have BK150 := n2_; have BK151 := n3_; have BK155 := n4_; have HB := n5_; clear n0_ n1_ n2_ n3_ n4_ n5_; clear hb ho11; obtain ⟨Ao12, co12, eo12⟩ := Kd.R_slice HO158.out; subst eo12; have hnb13 := NB150_151.out; have hnc13 := NB151_150.out; have hcz14_0 : w10.cell? ⟨gb150, 0, none⟩ = some (.int .i64 0) := (blk_cell BK150.out 0).trans rfl; have hcz14_1 : w10.cell? ⟨gb150, 1, none⟩ = some (.int .i64 0) := (blk_cell BK150.out 1).trans rfl; have hcz14_2 : w10.cell? ⟨gb150, 2, none⟩ = some (.slice none 0 0) := (blk_cell BK150.out 2).trans rfl; have hfz14_0 := blk_frozen BK150.out 0; have hfz14_1 := blk_frozen BK150.out 1; have hfz14_2 := blk_frozen BK150.out 2; have hcz15_0 : w10.cell? ⟨gb151, 0, none⟩ = some (.int .i64 0) := (blk_cell BK151.out 0).trans rfl; have hcz15_1 : w10.cell? ⟨gb151, 1, none⟩ = some (.int .i64 0) := (blk_cell BK151.out 1).trans rfl; have hcz15_2 : w10.cell? ⟨gb151, 2, none⟩ = some (.slice none 0 0) := (blk_cell BK151.out 2).trans rfl; have hfz15_0 := blk_frozen BK151.out 0; have hfz15_1 := blk_frozen BK151.out 1; have hfz15_2 := blk_frozen BK151.out 2))
 refine bodyPost_ret (results_cc rfl _ _ gb150 gb151 24 27 #[.int .i64 7, .int .i64 100, .slice Ao5 y152.length co5] #[.int .i64 7, .int .i64 102, .slice Ao12 y156.length co12] (0, 0) (0, 0) _ _ rfl (by (with_reducible repeat (first | refine blk_drewN ?_ _ | refine blk_drew ?_ | refine blk_alloc ?_ _ | refine blk_far ?_ NB150_151.out _)); refine blk_put (cs := #[.int .i64 7, .int .i64 100, .slice none 0 0]) ?_ 2 _ rfl; (with_reducible repeat (first | refine blk_drewN ?_ _ | refine blk_drew ?_ | refine blk_alloc ?_ _)); refine blk_put (cs := #[.int .i64 7, .int .i64 0, .slice none 0 0]) ?_ 1 _ rfl; (with_reducible repeat (first | refine blk_drewN ?_ _ | refine blk_drew ?_ | refine blk_alloc ?_ _)); refine blk_put (cs := #[.int .i64 0, .int .i64 0, .slice none 0 0]) ?_ 0 _ rfl; (with_reducible repeat (first | refine blk_drewN ?_ _ | refine blk_drew ?_ | refine blk_alloc ?_ _)); exact BK150.out) Tryd.underlying24 rfl (by kernel_rfl) rfl (by (with_reducible repeat (first | refine blk_drewN ?_ _ | refine blk_drew ?_ | refine blk_alloc ?_ _)); refine blk_put (cs := #[.int .i64 7, .int .i64 102, .slice none 0 0]) ?_ 2 _ rfl; (with_reducible repeat (first | refine blk_drewN ?_ _ | refine blk_drew ?_ | refine blk_alloc ?_ _)); refine blk_put (cs := #[.int .i64 7, .int .i64 0, .slice none 0 0]) ?_ 1 _ rfl; (with_reducible repeat (first | refine blk_drewN ?_ _ | refine blk_drew ?_ | refine blk_alloc ?_ _)); refine blk_put (cs := #[.int .i64 0, .int .i64 0, .slice none 0 0]) ?_ 0 _ rfl; (with_reducible repeat (first | refine blk_drewN ?_ _ | refine blk_drew ?_ | refine blk_alloc ?_ _ | refine blk_far ?_ NB151_150.out _)); exact BK151.out) Tryd.underlying27 rfl (by kernel_rfl)) rfl ?_
 exact ⟨_, _, by first | rfl | (simp [errW_none, errW_some] <;> rfl) | (simp [*, errW_none, errW_some] <;> rfl), by (with_reducible repeat (first | apply Kd.R_alloc | apply Kd.R_drewN | apply Kd.R_drew)); exact Kd.R_mono (Kd.R_far (p := ⟨gb151, 2, none⟩) (Kd.R_far (p := ⟨gb151, 1, none⟩) (Kd.R_far (p := ⟨gb151, 0, none⟩) (Kd.R_far (p := ⟨gb150, 2, none⟩) (Kd.R_far (p := ⟨gb150, 1, none⟩) (Kd.R_far (p := ⟨gb150, 0, none⟩) (Kd.R_types (Kd.R_types HO154.out BK150.out (by decide)) BK151.out (by decide)) (fun _ hk => hk.1.2) (.int .i64 7)) (fun _ hk => hk.1.2) (.int .i64 100)) (fun _ hk => hk.1.2) (.slice Ao5 y152.length co5)) (fun _ hk => hk.2) (.int .i64 7)) (fun _ hk => hk.2) (.int .i64 102)) (fun _ hk => hk.2) (.slice Ao12 y156.length co12)) (fun _ hk => trivial), by (with_reducible repeat (first | apply Kd.R_alloc | apply Kd.R_drewN | apply Kd.R_drew)); exact Kd.R_mono (Kd.R_far (p := ⟨gb151, 2, none⟩) (Kd.R_far (p := ⟨gb151, 1, none⟩) (Kd.R_far (p := ⟨gb151, 0, none⟩) (Kd.R_far (p := ⟨gb150, 2, none⟩) (Kd.R_far (p := ⟨gb150, 1, none⟩) (Kd.R_far (p := ⟨gb150, 0, none⟩) (Kd.R_types (Kd.R_types HO158.out BK150.out (by decide)) BK151.out (by decide)) (fun _ hk => hk.1.2) (.int .i64 7)) (fun _ hk => hk.1.2) (.int .i64 100)) (fun _ hk => hk.1.2) (.slice Ao5 y152.length co5)) (fun _ hk => hk.2) (.int .i64 7)) (fun _ hk => hk.2) (.int .i64 102)) (fun _ hk => hk.2) (.slice Ao12 y156.length co12)) (fun _ hk => trivial), by repeat (first | (with_reducible first | exact HB.out | apply below_alloc | apply pw_below_drewN | apply below_drew1 | refine below_set ?_ GE150.out | refine below_set ?_ GE151.out | refine below_set ?_ GE155.out) | exact HB.out)⟩

end Go.Proofs.YtndojpcjhkncgaaDoor.Q
end

section
namespace Go.Proofs.YtndojpcjhkncgaaDoor.Q
open Go Go.RowKit
set_option linter.unusedVariables false
set_option linter.unusedSimpArgs false

/-- The tables: powers of ten, and the place of the lowest bit. -/
structure GG (w : World) : Prop where
  pow : Lib.TabIs Tryd.prog w "internal/strconv.uint64pow10" .u64 Lib.pow10Tab
  low : Lib.TabIs Tryd.prog w "math/bits.deBruijn64tab" .u8 (Lib.deBruijn64tab.map fun (n : Nat) => (n : Int))

theorem named_pow : Tryd.prog.globalNamed "internal/strconv.uint64pow10" = some 0 := by kernel_rfl
theorem named_low : Tryd.prog.globalNamed "math/bits.deBruijn64tab" = some 2 := by kernel_rfl

theorem GG.below {w w1 : World} (h : GG w) (hb : Below w.heap.size w w1) : GG w1 := by
  exact ⟨Joins.tab_stays named_pow h.pow hb (Nat.le_refl _), Joins.tab_stays named_low h.low hb (Nat.le_refl _)⟩
end Go.Proofs.YtndojpcjhkncgaaDoor.Q
end

section
namespace Go.Proofs.YtndojpcjhkncgaaDoor.Q
open Go Go.RowKit
set_option linter.unusedVariables false
set_option linter.unusedSimpArgs false

theorem sizeBuilder : (Tryd.prog.info? 80).map (·.size) = some 2 := by kernel_rfl
theorem liesBuilder : liesAt Tryd.prog Tryd.prog.depth 80 (2 / Tryd.prog.cellsOf 80) 0 80 1 = true := by kernel_rfl
theorem infoByte : (Tryd.prog.info? 5).map (fun i => (i.zero, i.size, i.bytes)) = some (some (.int .u8 0), 1, 1) := by kernel_rfl

set_option maxRecDepth 100000 in
theorem copyCheck_fresh (b : Nat) (w : World) (h0 : w.cell? ⟨b, 0, none⟩ = some (.pointer none)) (hsh : w.shape? b = some (80, 2)) (hfz : w.frozen? ⟨b, 0, none⟩ = false) :
    Calls Tryd.prog 43 #[.pointer (some ⟨b, 0, none⟩)] w fun e w' => e = .returned (.tuple #[]) ∧ w' = w.setCell ⟨b, 0, none⟩ (.pointer (some ⟨b, 0, none⟩)) := by
  obtain ⟨j, hj, hjs⟩ := Option.map_eq_some_iff.1 sizeBuilder
  go_enter Tryd.func43, Tryd.ntmps43
  go_wp2
  rw [Lib.run_to_unsafe w ⟨b, 0, none⟩ Tryd.underlying77 Tryd.underlying91 hj (by rw [hjs]; decide) hsh (Nat.zero_lt_succ 1)]
  simp only [Result.andThen]
  rw [Oper.upon_value]
  go_wp2
  rw [run_callFunc_extern Tryd.func46 (by kernel_rfl) (by kernel_rfl) (by kernel_rfl) (e := Extern.AbiNoEscape.same) (by kernel_rfl)]
  rw [Lib.run_noEscape]
  simp only [Result.andThen]
  rw [Oper.upon_value]
  go_wp2
  rw [Lib.run_from_unsafe w ⟨b, 0, none⟩ Tryd.underlying91 Tryd.underlying77 hj hsh liesBuilder]
  simp only [Result.andThen]
  rw [Oper.upon_value]
  go_wp2
  go_end0
  exact ⟨rfl, rfl⟩

set_option maxRecDepth 100000 in
theorem copyCheck_used (b : Nat) (w : World) (h0 : w.cell? ⟨b, 0, none⟩ = some (.pointer (some ⟨b, 0, none⟩))) :
    Calls Tryd.prog 43 #[.pointer (some ⟨b, 0, none⟩)] w fun e w' => e = .returned (.tuple #[]) ∧ w' = w := by
  obtain ⟨j, hj, _⟩ := Option.map_eq_some_iff.1 sizeBuilder
  go_enter Tryd.func43, Tryd.ntmps43
  go_wp2
  rw [Lib.run_neq_ptr_same w _ Tryd.underlying77 hj]
  go_wp2
  go_end0
  exact ⟨rfl, rfl⟩

theorem copyCheck_k (B b : Nat) (bs : List Value) (w : World) (h : Lib.IsBuilderF 80 5 B b bs w) :
    Calls Tryd.prog 43 #[.pointer (some ⟨b, 0, none⟩)] w fun e w' => e = .returned (.tuple #[]) ∧ (Lib.BuilderAtF 80 5 B b (.pointer (some ⟨b, 0, none⟩)) bs w' ∧ Below B w w' ∧ Lib.OthersKept 5 (some b) w w') := by
  rcases h with h | h
  · refine (copyCheck_fresh b w h.cell0 h.shape h.frozen0).mono ?_
    rintro e w' ⟨rfl, rfl⟩
    exact ⟨rfl, h.used _, (Below.refl B w).setCell (p := ⟨b, 0, none⟩) h.1 _, (Lib.OthersKept.refl _ _ w).setCell ⟨b, 0, none⟩ rfl _⟩
  · refine (copyCheck_used b w h.cell0).mono ?_
    rintro e w' ⟨rfl, rfl⟩
    exact ⟨rfl, h, Below.refl B _, Lib.OthersKept.refl _ _ _⟩

theorem neB : (80 : Nat) ≠ 5 := by decide

set_option maxHeartbeats 1000000 in
set_option maxRecDepth 100000 in
theorem WriteByte_k (B b : Nat) (bs : List Value) (c : Int) (w : World) (h : Lib.IsBuilderF 80 5 B b bs w) (hlen : bs.length + 1 ≤ 140737488355328) (hBw : B ≤ w.heap.size) :
    Calls Tryd.prog 37 #[.pointer (some ⟨b, 0, none⟩), .int .u8 c] w fun e w' => e = .returned .nilIface ∧ (Lib.BuilderAtF 80 5 B b (.pointer (some ⟨b, 0, none⟩)) (bs ++ [.int .u8 c]) w' ∧ Below B w w' ∧ Lib.OthersKept 5 (some b) w w') := by
  obtain ⟨i0, hi, hz0, hz1, hz2⟩ := info_parts infoByte
  have hCC := Lib.hid (copyCheck_k B b bs w h)
  clear h
  go_enter Tryd.func37, Tryd.ntmps37
  go_wp2_with (go_at_call 43; refine hCC.out.mono ?_)
  rintro e w1 ⟨rfl, h1, hb1, hk1⟩
  obtain ⟨hB, v, hbk, hown, hne⟩ := h1
  have c0 : w1.cell? ⟨b, 0, none⟩ = some (.pointer (some ⟨b, 0, none⟩)) := by rw [Lib.cell_of_heap hbk]; rfl
  have c1 : w1.cell? ⟨b, 1, none⟩ = some v := by rw [Lib.cell_of_heap hbk]; rfl
  go_wp2_with (at_builtin; refine wpList_append_ownF _ rfl _ _ 78 rfl B 5 i0 (.int .u8 0) 1 1 Tryd.underlying78 hi hz0 hz1 hz2 rfl (by decide) _ _ _ rfl (hown.alloc _) ⟨w1.heap.size, 0, none⟩ 1 1 [.int .u8 c] rfl rfl ?c1 ?c2 ?c3 ?c4 ?c5 ?_)
  case c1 =>
    intro j u hj
    match j, hj with
    | 0, hj => simp at hj; subst hj; simp [Addr.add]
  case c2 => intro u hu; simp at hu; subst hu; rfl
  case c3 => unfold maxLen; omega
  case c4 => omega
  case c5 => have := hb1.size; simp; omega
  intro v' w2 hown' hgrow _
  have hlt : b < w1.heap.size := by
    rcases Nat.lt_or_ge b w1.heap.size with h' | h'
    · exact h'
    · simp [Array.getElem?_eq_none h'] at hbk
  have hb2 : w2.heap[b]? = some (.cells #[.pointer (some ⟨b, 0, none⟩), v] 80 (0, 0)) := by
    rw [hgrow.block b (by simp; omega) (fun e => hne e.symm), Lib.alloc_old w1 _ b hlt]
    exact hbk
  have d0 : w2.cell? ⟨b, 0, none⟩ = some (.pointer (some ⟨b, 0, none⟩)) := by rw [Lib.cell_of_heap hb2]; rfl
  have d1 : w2.cell? ⟨b, 1, none⟩ = some v := by rw [Lib.cell_of_heap hb2]; rfl
  have f1 : w2.frozen? ⟨b, 1, none⟩ = false := Lib.frozen_of_heap hb2 1
  obtain ⟨g, cap, rfl⟩ : ∃ g cap, v' = .slice (some ⟨g, 0, none⟩) (bs.length + 1) cap := by
    rcases hown'.2 with ⟨_, h0⟩ | ⟨g, cap, cur, fz, hv, _⟩
    · omega
    · exact ⟨g, cap, hv⟩
  go_wp2
  go_ret
  refine ⟨rfl, ?_, ?_, ((hk1.alloc _).grown hgrow (Lib.ownsRowF_kind (hown.alloc _))).setCell ⟨b, 1, none⟩ rfl _⟩
  · exact Lib.BuilderAtF.put (T := 80) (e := 5) hB hb2 (bs' := bs ++ [.int .u8 c]) (by simpa using hown') neB
  · exact ((hb1.alloc (by have := hb1.size; omega) _).grown hgrow (by have := hb1.size; simp; omega) (fun k hk => (hown.lt k hk).1)).setCell (p := ⟨b, 1, none⟩) hB _

set_option maxHeartbeats 1000000 in
set_option maxRecDepth 100000 in
theorem WriteString_k (B b : Nat) (bs : List Value) (s : ByteArray) (w : World) (h : Lib.IsBuilderF 80 5 B b bs w) (hlen : bs.length + s.size ≤ 140737488355328) (hBw : B ≤ w.heap.size) :
    Calls Tryd.prog 36 #[.pointer (some ⟨b, 0, none⟩), .string s] w fun e w' => e = .returned (.tuple #[.int .i64 s.size, .nilIface]) ∧ (Lib.BuilderAtF 80 5 B b (.pointer (some ⟨b, 0, none⟩)) (bs ++ Lib.strCells s) w' ∧ Below B w w' ∧ Lib.OthersKept 5 (some b) w w') := by
  obtain ⟨i0, hi, hz0, hz1, hz2⟩ := info_parts infoByte
  have hCC := Lib.hid (copyCheck_k B b bs w h)
  clear h
  go_enter Tryd.func36, Tryd.ntmps36
  go_wp2_with (go_at_call 43; refine hCC.out.mono ?_)
  rintro e w1 ⟨rfl, h1, hb1, hk1⟩
  obtain ⟨hB, v, hbk, hown, hne⟩ := h1
  have c0 : w1.cell? ⟨b, 0, none⟩ = some (.pointer (some ⟨b, 0, none⟩)) := by rw [Lib.cell_of_heap hbk]; rfl
  have c1 : w1.cell? ⟨b, 1, none⟩ = some v := by rw [Lib.cell_of_heap hbk]; rfl
  go_wp2_with (at_builtin; refine Lib.wpList_append_own_stringF _ rfl _ _ 78 9 rfl B 5 i0 Tryd.underlying78 Tryd.underlying9 hi hz0 hz1 hz2 _ _ _ rfl hown s rfl ?c3 ?c4 ?c5 ?_)
  case c3 => unfold maxLen; omega
  case c4 => omega
  case c5 => have := hb1.size; omega
  intro v' w2 hown' hgrow _
  have hlt : b < w1.heap.size := by
    rcases Nat.lt_or_ge b w1.heap.size with h' | h'
    · exact h'
    · simp [Array.getElem?_eq_none h'] at hbk
  have hb2 : w2.heap[b]? = some (.cells #[.pointer (some ⟨b, 0, none⟩), v] 80 (0, 0)) := by
    rw [hgrow.block b hlt (fun e => hne e.symm)]
    exact hbk
  have d0 : w2.cell? ⟨b, 0, none⟩ = some (.pointer (some ⟨b, 0, none⟩)) := by rw [Lib.cell_of_heap hb2]; rfl
  have d1 : w2.cell? ⟨b, 1, none⟩ = some v := by rw [Lib.cell_of_heap hb2]; rfl
  have f1 : w2.frozen? ⟨b, 1, none⟩ = false := Lib.frozen_of_heap hb2 1
  obtain ⟨ao, n', cap, rfl⟩ : ∃ ao n' cap, v' = .slice ao n' cap := by
    rcases hown'.2 with ⟨hv, _⟩ | ⟨g, cap, cur, fz, hv, _⟩
    · exact ⟨_, _, _, hv⟩
    · exact ⟨_, _, _, hv⟩
  go_wp2
  go_ret2
  refine ⟨rfl, ?_, ?_, (hk1.grown hgrow (Lib.ownsRowF_kind hown)).setCell ⟨b, 1, none⟩ rfl _⟩
  · exact Lib.BuilderAtF.put (T := 80) (e := 5) hB hb2 (bs' := bs ++ Lib.strCells s) (by simpa [Lib.strCells_length] using hown') neB
  · exact (hb1.grown hgrow (by have := hb1.size; omega) (fun k hk => (hown.lt k hk).1)).setCell (p := ⟨b, 1, none⟩) hB _
end Go.Proofs.YtndojpcjhkncgaaDoor.Q
end

section
namespace Go.Proofs.YtndojpcjhkncgaaDoor.Q
open Go Go.RowKit
set_option linter.unusedVariables false
set_option linter.unusedSimpArgs false

/-- A digit, and the digits of a number at base 16. -/
def dig (n : Nat) : UInt8 := ([48, 49, 50, 51, 52, 53, 54, 55, 56, 57, 97, 98, 99, 100, 101, 102] : List UInt8).getD n 0
def hexL (n : Nat) : List UInt8 := if n < 16 then [dig n] else hexL (n / 16) ++ [dig (n % 16)]
termination_by n
/-- The array behind the digits. -/
def hexA (l : List UInt8) : Array Value := (List.replicate (65 - l.length) (Value.int .u8 0) ++ l.map fun b => Value.int .u8 b.toNat).toArray

theorem digs_at (n : Nat) (hn : n < 16) : ∀ h, ((⟨#[48, 49, 50, 51, 52, 53, 54, 55, 56, 57, 97, 98, 99, 100, 101, 102, 103, 104, 105, 106, 107, 108, 109, 110, 111, 112, 113, 114, 115, 116, 117, 118, 119, 120, 121, 122]⟩ : ByteArray)[n]'h) = dig n := by
  intro h
  match n, hn with
  | 0, _ => rfl
  | 1, _ => rfl
  | 2, _ => rfl
  | 3, _ => rfl
  | 4, _ => rfl
  | 5, _ => rfl
  | 6, _ => rfl
  | 7, _ => rfl
  | 8, _ => rfl
  | 9, _ => rfl
  | 10, _ => rfl
  | 11, _ => rfl
  | 12, _ => rfl
  | 13, _ => rfl
  | 14, _ => rfl
  | 15, _ => rfl
  | n + 16, h => omega

theorem hexA_set (l : List UInt8) (j : Nat) (d : UInt8) (hj : j + l.length = 65) (h1 : 1 ≤ j) : (hexA l).setIfInBounds (j - 1) (Value.int .u8 (d.toNat : Int)) = hexA (d :: l) := by
  obtain ⟨m, rfl⟩ : ∃ m, j = m + 1 := ⟨j - 1, by omega⟩
  unfold hexA
  rw [List.setIfInBounds_toArray, show 65 - l.length = m + 1 by omega, show 65 - (d :: l).length = m by simp; omega, Nat.add_sub_cancel, List.replicate_succ', List.append_assoc, List.set_append_right _ _ (by simp)]
  simp
theorem hexA_size (l : List UInt8) (h : l.length ≤ 65) : (hexA l).size = 65 := by simp [hexA]; omega
theorem hexA_cell (l : List UInt8) (i : Nat) (h : l.length ≤ 65) (hi : i < l.length) : (hexA l)[65 - l.length + i]? = some (.int .u8 ((l.map fun b => (b.toNat : Int)).getD i 0)) := by
  simp [hexA, List.getElem?_append, hi]

theorem and_15 (v : Nat) (h : v < 4294967296) : Go.bits .and .u64 (v : Int) 15 = ((v % 16 : Nat) : Int) := by
  have := bits_and_u64_nat v 15 (by omega) (by omega)
  rw [show ((15 : Nat) : Int) = 15 from rfl] at this
  rw [this, Nat.and_two_pow_sub_one_eq_mod v 4]

theorem hexL_small (v : Nat) (h : v < 16) : hexL v = [dig v] := by rw [hexL, if_pos h]
theorem hexL_big (v : Nat) (h : 16 ≤ v) : hexL v = hexL (v / 16) ++ [dig (v % 16)] := by rw [hexL, if_neg (by omega)]
theorem hexL_step (u v : Nat) (l : List UInt8) (h : hexL u = hexL v ++ l) (h16 : 16 ≤ v) : hexL u = hexL (v / 16) ++ (dig (v % 16) :: l) := by rw [h, hexL_big v h16]; simp
theorem hexL_end (u v : Nat) (l : List UInt8) (h : hexL u = hexL v ++ l) (h16 : v < 16) : hexL u = dig v :: l := by rw [h, hexL_small v h16]; rfl
/-- At most eight digits below 2^32. -/
theorem hexL_length (k : Nat) : ∀ u, u < 16 ^ (k + 1) → 1 ≤ (hexL u).length ∧ (hexL u).length ≤ k + 1 := by
  induction k with
  | zero => intro u hu; rw [hexL_small u (by simpa using hu)]; simp
  | succ k ih =>
    intro u hu
    by_cases h : u < 16
    · rw [hexL_small u h]; simp
    · rw [hexL_big u (by omega)]
      have := ih (u / 16) (by rw [Nat.div_lt_iff_lt_mul (by omega), ← Nat.pow_succ]; exact hu)
      simp; omega
end Go.Proofs.YtndojpcjhkncgaaDoor.Q
end

section
namespace Go.Proofs
open Go.Shelf
def Tryd.lays169_ren : Go.Shelf.Ren := ⟨fun | 169 => 39 | n => n, fun | 70 => 77 | 9 => 9 | 0 => 0 | 72 => 80 | 37 => 78 | 127 => 88 | 3 => 3 | 5 => 5 | n => n, fun | n => n⟩
theorem Tryd.lays169 : Go.Proofs.Lays.n169 Tryd.prog Tryd.lays169_ren := {
  mixed := by kernel_rfl
  f169 := Tryd.func39.trans (congrArg some (by kernel_rfl))
  t0 := Tryd.underlying0
  a0 := Tryd.isAgg0
  z0 := Tryd.sizeOf0
  v0 := Tryd.zeroValue0
  t3 := Tryd.underlying3
  a3 := Tryd.isAgg3
  z3 := Tryd.sizeOf3
  v3 := Tryd.zeroValue3
  t9 := Tryd.underlying9
  a9 := Tryd.isAgg9
  z9 := Tryd.sizeOf9
  v9 := Tryd.zeroValue9
  t37 := Tryd.underlying78
  a37 := Tryd.isAgg78
  z37 := Tryd.sizeOf78
  v37 := Tryd.zeroValue78
  t70 := Tryd.underlying77
  a70 := Tryd.isAgg77
  z70 := Tryd.sizeOf77
  v70 := Tryd.zeroValue77
  t72 := Tryd.underlying80
  a72 := Tryd.isAgg80
  z72 := Tryd.sizeOf80
  v72 := Tryd.zeroValue80
  t127 := Tryd.underlying88
  a127 := Tryd.isAgg88
  z127 := Tryd.sizeOf88
  v127 := Tryd.zeroValue88 }
theorem Tryd.Builder_Extra_169 : Builder.Extra Tryd.prog Tryd.lays169_ren := {
  sizeBuilder := by kernel_rfl
  liesBuilder := by kernel_rfl
  t5 := Tryd.underlying5
  a5 := Tryd.isAgg5
  z5 := Tryd.sizeOf5
  v5 := Tryd.zeroValue5
  infoByte := by kernel_rfl
  cellsByte := by kernel_rfl
  sizeByte := by kernel_rfl
  neB5 := by decide }
open Go.RowKit in
theorem Tryd.Builder_String_any (B b : Nat) (l : List UInt8) (w : World) (h : Lib.IsBuilder 80 5 B b (Lib.byteCells l) w) (hBw : B ≤ w.heap.size) :
    Calls Tryd.prog 39 #[.pointer (some ⟨b, 0, none⟩)] w fun e w' => e = .returned (.string ⟨l.toArray⟩) ∧ Below B w w' := Any.Builder_String_any Tryd.lays169 Tryd.Builder_Extra_169 B b l w h hBw
open Go.RowKit in
theorem Tryd.Builder_String_any_k (B b : Nat) (l : List UInt8) (w : World) (h : Lib.IsBuilderF 80 5 B b (Lib.byteCells l) w) (hBw : B ≤ w.heap.size) :
    Calls Tryd.prog 39 #[.pointer (some ⟨b, 0, none⟩)] w fun e w' => e = .returned (.string ⟨l.toArray⟩) ∧ (Lib.IsBuilderF 80 5 B b (Lib.byteCells l) w' ∧ Below B w w' ∧ Lib.OthersKept 5 (some b) w w') := Any.Builder_String_any_k Tryd.lays169 Tryd.Builder_Extra_169 B b l w h hBw
def Tryd.laysM171_ren : Go.Shelf.Ren := ⟨fun | 171 => 38 | 243 => 44 | 246 => 47 | 283 => 50 | 284 => 51 | 285 => 52 | 286 => 53 | 129 => 60 | 317 => 59 | 318 => 61 | 319 => 62 | 320 => 63 | 337 => 68 | 338 => 69 | n => n, fun | 3 => 3 | 9 => 9 | 2 => 2 | 4 => 4 | 171 => 97 | 0 => 0 | 53 => 95 | 37 => 78 | 5 => 5 | 173 => 100 | 212 => 109 | 51 => 89 | 20 => 20 | 213 => 110 | 46 => 76 | 232 => 118 | 233 => 119 | n => n, fun | 17 => 0 | 18 => 1 | 19 => 2 | n => n⟩
theorem Tryd.laysM171 : Go.Proofs.LaysM.n171 Tryd.prog Tryd.laysM171_ren := {
  mixed := by kernel_rfl
  f129 := Tryd.func60.trans (congrArg some (by kernel_rfl))
  f171 := Tryd.func38.trans (congrArg some (by kernel_rfl))
  f243 := Tryd.func44.trans (congrArg some (by kernel_rfl))
  f246 := Tryd.func47.trans (congrArg some (by kernel_rfl))
  f283 := Tryd.func50.trans (congrArg some (by kernel_rfl))
  f284 := Tryd.func51.trans (congrArg some (by kernel_rfl))
  f285 := Tryd.func52.trans (congrArg some (by kernel_rfl))
  f286 := Tryd.func53.trans (congrArg some (by kernel_rfl))
  f317 := Tryd.func59.trans (congrArg some (by kernel_rfl))
  f318 := Tryd.func61.trans (congrArg some (by kernel_rfl))
  f319 := Tryd.func62.trans (congrArg some (by kernel_rfl))
  f320 := Tryd.func63.trans (congrArg some (by kernel_rfl))
  f337 := Tryd.func68.trans (congrArg some (by kernel_rfl))
  f338 := Tryd.func69.trans (congrArg some (by kernel_rfl))
  t0 := Tryd.underlying0
  a0 := Tryd.isAgg0
  z0 := Tryd.sizeOf0
  v0 := Tryd.zeroValue0
  t2 := Tryd.underlying2
  a2 := Tryd.isAgg2
  z2 := Tryd.sizeOf2
  v2 := Tryd.zeroValue2
  t3 := Tryd.underlying3
  a3 := Tryd.isAgg3
  z3 := Tryd.sizeOf3
  v3 := Tryd.zeroValue3
  t4 := Tryd.underlying4
  a4 := Tryd.isAgg4
  z4 := Tryd.sizeOf4
  v4 := Tryd.zeroValue4
  t5 := Tryd.underlying5
  a5 := Tryd.isAgg5
  z5 := Tryd.sizeOf5
  v5 := Tryd.zeroValue5
  t9 := Tryd.underlying9
  a9 := Tryd.isAgg9
  z9 := Tryd.sizeOf9
  v9 := Tryd.zeroValue9
  t20 := Tryd.underlying20
  a20 := Tryd.isAgg20
  z20 := Tryd.sizeOf20
  v20 := Tryd.zeroValue20
  t37 := Tryd.underlying78
  a37 := Tryd.isAgg78
  z37 := Tryd.sizeOf78
  v37 := Tryd.zeroValue78
  t46 := Tryd.underlying76
  a46 := Tryd.isAgg76
  z46 := Tryd.sizeOf76
  v46 := Tryd.zeroValue76
  t51 := Tryd.underlying89
  a51 := Tryd.isAgg89
  z51 := Tryd.sizeOf89
  v51 := Tryd.zeroValue89
  t53 := Tryd.underlying95
  a53 := Tryd.isAgg95
  z53 := Tryd.sizeOf95
  v53 := Tryd.zeroValue95
  t171 := Tryd.underlying97
  a171 := Tryd.isAgg97
  z171 := Tryd.sizeOf97
  v171 := Tryd.zeroValue97
  t173 := Tryd.underlying100
  a173 := Tryd.isAgg100
  z173 := Tryd.sizeOf100
  v173 := Tryd.zeroValue100
  t212 := Tryd.underlying109
  a212 := Tryd.isAgg109
  z212 := Tryd.sizeOf109
  v212 := Tryd.zeroValue109
  t213 := Tryd.underlying110
  a213 := Tryd.isAgg110
  z213 := Tryd.sizeOf110
  t232 := Tryd.underlying118
  a232 := Tryd.isAgg118
  z232 := Tryd.sizeOf118
  v232 := Tryd.zeroValue118
  t233 := Tryd.underlying119
  a233 := Tryd.isAgg119
  z233 := Tryd.sizeOf119
  v233 := Tryd.zeroValue119
  g17 := by kernel_rfl
  g18 := by kernel_rfl
  g19 := by kernel_rfl
  i0 := by kernel_rfl
  i2 := by kernel_rfl
  i3 := by kernel_rfl
  i4 := by kernel_rfl
  i5 := by kernel_rfl
  i9 := by kernel_rfl
  i20 := by kernel_rfl
  i37 := by kernel_rfl
  i46 := by kernel_rfl
  i51 := by kernel_rfl
  i53 := by kernel_rfl
  i171 := by kernel_rfl
  i173 := by kernel_rfl
  i212 := by kernel_rfl
  i232 := by kernel_rfl
  i233 := by kernel_rfl
  m17 := by kernel_rfl
  m18 := by kernel_rfl
  m19 := by kernel_rfl }
open Go.RowKit Go.Sort Go.Lib in
theorem Tryd.strconv_Itoa (n : Int) (h0 : -9223372036854775808 ≤ n) (h1 : n ≤ 9223372036854775807) (w : World) (htab : Lib.TabIs Tryd.prog w "internal/strconv.uint64pow10" .u64 Lib.pow10Tab) :
    Calls Tryd.prog 38 #[.int .i64 n] w fun e w' => e = .returned (.string ⟨(Lib.itoa n).toArray⟩) ∧ ∃ k os, w' = grow (w.drewN k) os := Any.strconv_Itoa Tryd.laysM171 n h0 h1 w htab
def Tryd.lays105_ren : Go.Shelf.Ren := ⟨fun | 105 => 49 | 212 => 55 | 99 => 56 | 165 => 57 | 166 => 36 | 170 => 58 | 169 => 39 | 263 => 64 | 264 => 65 | 206 => 66 | 240 => 43 | 241 => 67 | 276 => 46 | 277 => 70 | n => n, fun | 9 => 9 | 3 => 3 | 4 => 4 | 20 => 20 | 0 => 0 | 46 => 76 | 109 => 102 | 5 => 5 | 72 => 80 | 76 => 83 | 51 => 89 | 146 => 112 | 53 => 95 | 148 => 114 | 70 => 77 | 37 => 78 | 75 => 82 | 127 => 88 | 164 => 91 | 80 => 87 | n => n, fun | n => n⟩
theorem Tryd.lays105 : Go.Proofs.Lays.n105 Tryd.prog Tryd.lays105_ren := {
  mixed := by kernel_rfl
  f99 := Tryd.func56.trans (congrArg some (by kernel_rfl))
  f105 := Tryd.func49.trans (congrArg some (by kernel_rfl))
  f165 := Tryd.func57.trans (congrArg some (by kernel_rfl))
  f166 := Tryd.func36.trans (congrArg some (by kernel_rfl))
  f169 := Tryd.func39.trans (congrArg some (by kernel_rfl))
  f170 := Tryd.func58.trans (congrArg some (by kernel_rfl))
  f206 := Tryd.func66.trans (congrArg some (by kernel_rfl))
  f212 := Tryd.func55.trans (congrArg some (by kernel_rfl))
  f240 := Tryd.func43.trans (congrArg some (by kernel_rfl))
  f241 := Tryd.func67.trans (congrArg some (by kernel_rfl))
  f263 := Tryd.func64.trans (congrArg some (by kernel_rfl))
  f264 := Tryd.func65.trans (congrArg some (by kernel_rfl))
  f276 := Tryd.func46.trans (congrArg some (by kernel_rfl))
  f277 := Tryd.func70.trans (congrArg some (by kernel_rfl))
  t0 := Tryd.underlying0
  a0 := Tryd.isAgg0
  z0 := Tryd.sizeOf0
  v0 := Tryd.zeroValue0
  t3 := Tryd.underlying3
  a3 := Tryd.isAgg3
  z3 := Tryd.sizeOf3
  v3 := Tryd.zeroValue3
  t4 := Tryd.underlying4
  a4 := Tryd.isAgg4
  z4 := Tryd.sizeOf4
  v4 := Tryd.zeroValue4
  t5 := Tryd.underlying5
  a5 := Tryd.isAgg5
  z5 := Tryd.sizeOf5
  v5 := Tryd.zeroValue5
  t9 := Tryd.underlying9
  a9 := Tryd.isAgg9
  z9 := Tryd.sizeOf9
  v9 := Tryd.zeroValue9
  t20 := Tryd.underlying20
  a20 := Tryd.isAgg20
  z20 := Tryd.sizeOf20
  v20 := Tryd.zeroValue20
  t37 := Tryd.underlying78
  a37 := Tryd.isAgg78
  z37 := Tryd.sizeOf78
  v37 := Tryd.zeroValue78
  t46 := Tryd.underlying76
  a46 := Tryd.isAgg76
  z46 := Tryd.sizeOf76
  v46 := Tryd.zeroValue76
  t51 := Tryd.underlying89
  a51 := Tryd.isAgg89
  z51 := Tryd.sizeOf89
  v51 := Tryd.zeroValue89
  t53 := Tryd.underlying95
  a53 := Tryd.isAgg95
  z53 := Tryd.sizeOf95
  v53 := Tryd.zeroValue95
  t70 := Tryd.underlying77
  a70 := Tryd.isAgg77
  z70 := Tryd.sizeOf77
  v70 := Tryd.zeroValue77
  t72 := Tryd.underlying80
  a72 := Tryd.isAgg80
  z72 := Tryd.sizeOf80
  v72 := Tryd.zeroValue80
  t75 := Tryd.underlying82
  a75 := Tryd.isAgg82
  z75 := Tryd.sizeOf82
  v75 := Tryd.zeroValue82
  t76 := Tryd.underlying83
  a76 := Tryd.isAgg83
  z76 := Tryd.sizeOf83
  v76 := Tryd.zeroValue83
  t109 := Tryd.underlying102
  a109 := Tryd.isAgg102
  z109 := Tryd.sizeOf102
  v109 := Tryd.zeroValue102
  t127 := Tryd.underlying88
  a127 := Tryd.isAgg88
  z127 := Tryd.sizeOf88
  v127 := Tryd.zeroValue88
  t146 := Tryd.underlying112
  a146 := Tryd.isAgg112
  z146 := Tryd.sizeOf112
  v146 := Tryd.zeroValue112
  t148 := Tryd.underlying114
  a148 := Tryd.isAgg114
  z148 := Tryd.sizeOf114
  v148 := Tryd.zeroValue114
  t164 := Tryd.underlying91
  a164 := Tryd.isAgg91
  z164 := Tryd.sizeOf91
  v164 := Tryd.zeroValue91 }
theorem Tryd.Builder_Extra_105 : Builder.Extra Tryd.prog Tryd.lays105_ren := {
  sizeBuilder := by kernel_rfl
  liesBuilder := by kernel_rfl
  t5 := Tryd.underlying5
  a5 := Tryd.isAgg5
  z5 := Tryd.sizeOf5
  v5 := Tryd.zeroValue5
  infoByte := by kernel_rfl
  cellsByte := by kernel_rfl
  sizeByte := by kernel_rfl
  neB5 := by decide }
open Go.RowKit Go.Lib in
theorem Tryd.strings_Repeat (s : ByteArray) (c : Nat) (w : World) (hc : c ≤ 9223372036854775807) (hlen : s.size * c ≤ 140737488355328) :
    Calls Tryd.prog 49 #[.string s, .int .i64 c] w fun e w' => e = .returned (.string ⟨(Lib.repeatL s.data.toList c).toArray⟩) ∧ Below w.heap.size w w' := Any.strings_Repeat Tryd.lays105 Tryd.Builder_Extra_105 s c w hc hlen
end Go.Proofs
end

section
namespace Go.Proofs.YtndojpcjhkncgaaDoor.Q
open Go Go.RowKit Go.Proofs.YtndojpcjhkncgaaDoorW.PrintWords
set_option linter.unusedVariables false
set_option linter.unusedSimpArgs false

theorem tz_16 (w : World) (hG : GG w) : Calls Tryd.prog 69 #[.int .u64 16] w fun e w' => e = .returned (.int .i64 4) ∧ w' = w := by
  have hc := hG.low.cell named_low 15 (by decide)
  clear hG
  replace hc : w.cell? ⟨2, 15, none⟩ = some (.int .u8 4) := hc
  have key : IntKind.u64.wrap (bits BinOp.and IntKind.u64 16 (IntKind.u64.wrap (-16)) * 285870213051353865) / 288230376151711744 = 15 := by kernel_rfl
  go_enter Tryd.func69, Tryd.ntmps69
  go_wp2
  go_ret
  exact ⟨rfl, rfl⟩

theorem tzs_16 (w : World) (hG : GG w) : Calls Tryd.prog 63 #[.int .u64 16] w fun e w' => e = .returned (.int .i64 4) ∧ w' = w := by
  have h := tz_16 w hG
  clear hG
  go_enter Tryd.func63, Tryd.ntmps63
  go_wp2_with (go_at_call 69; refine h.mono ?_; rintro e w' ⟨rfl, rfl⟩)
  go_ret
  exact ⟨rfl, rfl⟩


theorem pow_16 (w : World) : Calls Tryd.prog 62 #[.int .i64 16] w fun e w' => e = .returned (.bool true) ∧ w' = w := by
  have key : (bits BinOp.and IntKind.i64 16 15 == 0) = true := by kernel_rfl
  go_enter Tryd.func62, Tryd.ntmps62
  go_wp2
  go_ret
  exact ⟨rfl, rfl⟩

theorem hexA_nil : Tryd.zeroCells110 = hexA [] := by kernel_rfl
theorem alen_110 : Tryd.prog.arrayLen 110 = 65 := by kernel_rfl
theorem elem_110 : Tryd.prog.elem 110 = 5 := by kernel_rfl
theorem under_110 : Tryd.prog.underlying 110 = some (.array (Tryd.prog.arrayLen 110) (Tryd.prog.elem 110)) := by kernel_rfl

theorem slice_110 (W : World) (b j : Nat) (h1 : 1 ≤ j) (h2 : j ≤ 65) : (Instr.sliceAt 110 (.pointer (some ⟨b, 0, none⟩)) (some (.int .i64 ((j : Int) - 1))) none none).run Tryd.prog W = .ok (.slice (some ⟨b, j - 1, none⟩) (66 - j) (66 - j)) W := by
  have hs : (sizeOf 5).run Tryd.prog W = .ok 1 W := by kernel_rfl
  have h := run_sliceAt_array_l (P := Tryd.prog) W 110 ⟨b, 0, none⟩ under_110 .i64 ((j : Int) - 1) (by omega) (by rw [alen_110]; omega)
  rw [h, elem_110, hs, alen_110]
  have e1 : ((j : Int) - 1).toNat = j - 1 := by omega
  have e2 : ¬ 65 = j - 1 := by omega
  simp only [Result.andThen, slicedAt, e1, if_neg e2, Nat.mul_one]
  rw [show 65 - (j - 1) = 66 - j by omega]
  unfold Addr.add
  by_cases e : j - 1 = 0
  · simp [e]
  · simp [e]
theorem conv_hex (w : World) (l : List UInt8) (h : l.length ≤ 65) : (convert 78 9 (.slice (some ⟨w.heap.size, 65 - l.length, none⟩) l.length l.length)).run Tryd.prog (w.alloc (.cells (hexA l) 110)) = .ok (.string ⟨l.toArray⟩) (w.alloc (.cells (hexA l) 110)) := by
  have hc := run_convert_bytes_arg (P := Tryd.prog) (w.alloc (.cells (hexA l) 110)) 78 5 Tryd.underlying78 Tryd.underlying5 w.heap.size (65 - l.length) l.length l.length (l.map fun b => (b.toNat : Int)) (by simp) (fun i hi => by
    exact (blk_cell (heap_alloc_new w (.cells (hexA l) 110)) (65 - l.length + i)).trans (hexA_cell l i h hi)) 9 Tryd.underlying9
  rw [hc, Lib.Lz.strOfNums_map]

set_option maxRecDepth 100000 in
theorem bits_16 (u : Nat) (hu : u < 4294967296) (w : World) (hG : GG w) :
    Calls Tryd.prog 53 #[.slice none 0 0, .int .u64 u, .int .i64 16, .bool false, .bool false] w fun e w' => e = .returned (.tuple #[.slice none 0 0, .string ⟨(hexL u).toArray⟩]) ∧ Below w.heap.size w w' := by
  have hz : GG (w.alloc (.cells Tryd.zeroCells110 110)) := hG.below ((Below.refl _ _).alloc (Nat.le_refl _) _)
  clear hG
  have hlen := hexL_length 7 u (by omega)
  go_enter Tryd.func53, Tryd.ntmps53
  go_wp2_with (first | (go_at_call 62; refine (pow_16 _).mono ?_; rintro e w' ⟨rfl, rfl⟩) | (go_at_call 63; refine (tzs_16 _ hz).mono ?_; rintro e w' ⟨rfl, rfl⟩))
  go_loopw [1, 13] (fun x y wr => ∃ (v j : Nat) (l : List UInt8), x = .int .u64 v ∧ y = .int .i64 j ∧ j + l.length = 65 ∧ v < 4294967296 ∧ Hid (hexL u = hexL v ++ l) ∧ wr = w.alloc (.cells (hexA l) 110)) (fun x _ _ => (intOf x).toNat)
  case atStart => exact ⟨u, 65, [], rfl, rfl, rfl, hu, by exact (by simp : hexL u = hexL u ++ []), by rw [hexA_nil]⟩
  case round =>
    obtain ⟨v, j, l, rfl, rfl, hj, hv, hl, rfl⟩ := hrel
    have hll : l.length ≤ 7 := by
      have h1 := congrArg List.length hl.out
      have h2 := hexL_length 7 v (by omega)
      rw [List.length_append] at h1
      omega
    have hlt : j - 1 < (hexA l).size := by rw [hexA_size l (by omega)]; omega
    have hb := heap_alloc_new w (.cells (hexA l) 110)
    have hc : (w.alloc (.cells (hexA l) 110)).cell? ⟨w.heap.size, j - 1, none⟩ = some (hexA l)[j - 1] := (blk_cell hb (j - 1)).trans (Array.getElem?_eq_getElem hlt)
    obtain ⟨x, hx⟩ : ∃ x, (hexA l)[j - 1] = x := ⟨_, rfl⟩
    rw [hx] at hc
    clear hx hlt
    have hf := blk_frozen hb (j - 1)
    clear hb
    have ha := and_15 v hv
    have hj1 : (j : Int) ≤ 65 := by omega
    have hj0 : (1 : Int) ≤ (j : Int) := by omega
    clear hlen
    by_cases h16 : 16 ≤ v
    · have hd := digs_at (v % 16) (by omega)
      have hset := hexA_set l j (dig (v % 16)) hj (by omega)
      have HJ := Lib.hid hj
      have HL := Lib.hid hll
      clear hj hll
      go_wp2
      have hj := HJ.out
      refine ⟨⟨v / 16, j - 1, dig (v % 16) :: l, by simp, ?_, by simp; omega, by omega, hexL_step u v l hl.out h16, rfl⟩, by simp [intOf]; omega⟩
      rw [show ((j - 1 : Nat) : Int) = (j : Int) - 1 by omega]
    · have hd := digs_at v (by omega)
      have hset := hexA_set l j (dig v) hj (by omega)
      have hsl := fun W => slice_110 W w.heap.size j (by omega) (by omega)
      have hcv := conv_hex w (dig v :: l) (by simp; omega)
      rw [show 65 - (dig v :: l).length = j - 1 by simp; omega, show (dig v :: l).length = 66 - j by simp; omega] at hcv
      have he := hexL_end u v l hl.out (by omega)
      have HE := Lib.hid he
      have HJ := Lib.hid hj
      have HL := Lib.hid hll
      clear hj hll he hl
      go_wp2
      go_ret2
      exact ⟨congrArg (fun z => Ending.returned (.tuple #[.slice none 0 0, .string ⟨List.toArray z⟩])) HE.out.symm, (Below.refl _ _).alloc (Nat.le_refl _) _⟩

theorem uint_16 (u : Nat) (hu : u < 4294967296) (w : World) (hG : GG w) :
    Calls Tryd.prog 54 #[.int .u64 u, .int .i64 16] w fun e w' => e = .returned (.string ⟨(hexL u).toArray⟩) ∧ Below w.heap.size w w' := by
  have H := Lib.hid (bits_16 u hu w hG)
  clear hG
  go_enter Tryd.func54, Tryd.ntmps54
  go_wp2_with (go_at_call 53; refine H.out.mono ?_; rintro e w' ⟨rfl, hb⟩)
  go_ret
  exact ⟨rfl, hb⟩

theorem FormatUint_16 (u : Nat) (hu : u < 4294967296) (w : World) (hG : GG w) :
    Calls Tryd.prog 48 #[.int .u64 u, .int .i64 16] w fun e w' => e = .returned (.string ⟨(hexL u).toArray⟩) ∧ Below w.heap.size w w' := by
  have H := Lib.hid (uint_16 u hu w hG)
  clear hG
  go_enter Tryd.func48, Tryd.ntmps48
  go_wp2_with (go_at_call 54; refine H.out.mono ?_; rintro e w' ⟨rfl, hb⟩)
  go_ret
  exact ⟨rfl, hb⟩

/-- The eight digits. -/
def hex8 (u : Nat) : List UInt8 := List.replicate (8 - (hexL u).length) 48 ++ hexL u
def bank_hex.f (a0 : Int) : Option ByteArray := if 0 ≤ a0 ∧ a0 < 4294967296 then some ⟨(hex8 a0.toNat).toArray⟩ else none

theorem rep_48 (n : Nat) : Lib.repeatL [48] n = List.replicate n (48 : UInt8) := by
  induction n with
  | zero => rfl
  | succ n ih => rw [Lib.repeatL, ih]; rfl
theorem hex8_eq (u : Nat) (s r : ByteArray) (hs : s = ⟨(hexL u).toArray⟩) (hr : r = ⟨(Lib.repeatL [48] (8 - s.size)).toArray⟩) : r ++ s = ⟨(hex8 u).toArray⟩ := by
  have hz : s.size = (hexL u).length := by rw [hs]; rfl
  rw [hr, hz, hs, rep_48]
  apply ByteArray.ext
  rw [ByteArray.data_append]
  simp [hex8]
theorem bank_hex.go (u : Nat) (hu : u < 4294967296) (w : World) (hG : GG w) :
    Calls Tryd.prog 45 #[.int .u32 u] w fun e w' => e = .returned (.string ⟨(hex8 u).toArray⟩) ∧ Below w.heap.size w w' := by
  obtain ⟨s, hs⟩ : ∃ s : ByteArray, s = ⟨(hexL u).toArray⟩ := ⟨_, rfl⟩
  obtain ⟨r, hr⟩ : ∃ r : ByteArray, r = ⟨(Lib.repeatL [48] (8 - s.size)).toArray⟩ := ⟨_, rfl⟩
  have hl := hexL_length 7 u (by omega)
  have hz : s.size = (hexL u).length := by rw [hs]; rfl
  have hsz : s.size ≤ 8 := by omega
  have hrz : r.size ≤ 8 := by
    rw [hr, rep_48]
    show (List.replicate (8 - s.size) (48 : UInt8)).toArray.size ≤ 8
    simp
  have h := FormatUint_16 u hu w hG
  rw [← hs] at h
  have h2 : ∀ W, Calls Tryd.prog 49 #[.string ⟨#[48]⟩, .int .i64 ((8 - s.size : Nat) : Int)] W fun e w' => e = .returned (.string r) ∧ Below W.heap.size W w' := by
    intro W
    rw [hr]
    exact Tryd.strings_Repeat ⟨#[48]⟩ (8 - s.size) W (by omega) (by show 1 * (8 - s.size) ≤ _; omega)
  have H := Lib.hid h
  have H2 := Lib.hid h2
  have HE := Lib.hid (hex8_eq u s r hs hr)
  clear h h2 hs hr hG hz hl
  go_enter Tryd.func45, Tryd.ntmps45
  go_wp2_with (go_at_call 48; refine H.out.mono ?_; rintro e w' ⟨rfl, hb⟩)
  rw [show (8 : Int) - (s.size : Int) = ((8 - s.size : Nat) : Int) by omega]
  refine (H2.out _).mono ?_
  rintro e w2 ⟨rfl, hb2⟩
  go_wp2_with fail
  go_ret
  exact ⟨by rw [← HE.out]; rfl, below_step hb hb2⟩

theorem bank_hex.calls (a0 : Int) (r : ByteArray) (w : World) (hG : GG w) (h : bank_hex.f a0 = some r) :
    Calls Tryd.prog 45 #[.int .u32 a0] w fun e w' => e = .returned (.string r) ∧ Below w.heap.size w w' := by
  unfold bank_hex.f at h
  split at h
  · rename_i h0
    obtain rfl := Option.some.inj h
    have := bank_hex.go a0.toNat (by omega) w hG
    rw [Int.toNat_of_nonneg h0.1] at this
    exact this
  · cases h

/-- Decimal digits. -/
def strconv_Itoa.f (a0 : Int) : Option ByteArray := if -9223372036854775808 ≤ a0 ∧ a0 ≤ 9223372036854775807 then some ⟨(Lib.itoa a0).toArray⟩ else none
theorem strconv_Itoa.calls (a0 : Int) (r : ByteArray) (w : World) (hG : GG w) (h : strconv_Itoa.f a0 = some r) :
    Calls Tryd.prog 38 #[.int .i64 a0] w fun e w' => e = .returned (.string r) ∧ Below w.heap.size w w' := by
  unfold strconv_Itoa.f at h
  split at h
  · rename_i h0
    obtain rfl := Option.some.inj h
    refine (Tryd.strconv_Itoa a0 h0.1 h0.2 w hG.pow).mono ?_
    rintro e w' ⟨rfl, k, os, rfl⟩
    exact ⟨rfl, Lib.below_grow _ _ (Nat.le_refl _) _ _⟩
  · cases h
end Go.Proofs.YtndojpcjhkncgaaDoor.Q
end

section
namespace Go.Proofs.YtndojpcjhkncgaaDoor.Q
open Go Go.RowKit Go.Proofs.YtndojpcjhkncgaaDoorW.PrintWords
set_option linter.unusedVariables false
set_option linter.unusedSimpArgs false

/-- The builder at b holds the bytes l; what lay in the base world stands. -/
structure Bd (w0 : World) (b : Nat) (l : List UInt8) (W : World) : Prop where
  is : Lib.IsBuilderF 80 5 w0.heap.size b (Lib.byteCells l) W
  low : Below w0.heap.size w0 W
/-- Every block but the builder's, and rows of bytes, stands. -/
structure Ok (b : Nat) (W W' : World) : Prop where
  kept : Lib.OthersKept 5 (some b) W W'

theorem Ok.refl (b : Nat) (W : World) : Ok b W W := ⟨Lib.OthersKept.refl _ _ _⟩
theorem Ok.trans {b : Nat} {W1 W2 W3 : World} (h : Ok b W1 W2) (k : Ok b W2 W3) : Ok b W1 W3 := ⟨h.kept.trans k.kept⟩
theorem Ok.of_below {b : Nat} {W1 W2 : World} (h : Below W1.heap.size W1 W2) : Ok b W1 W2 := ⟨fun k o hk _ _ => (h.block k (Array.getElem?_eq_some_iff.1 hk).1).trans hk⟩
theorem Ok.then_ {b : Nat} {W1 W2 W3 : World} (h : Ok b W1 W2) (k : Below W2.heap.size W2 W3) : Ok b W1 W3 := h.trans (Ok.of_below k)
theorem Ok.at_ {b g : Nat} {W W' : World} (h : Ok b W W') {cs : Array Value} {t : TypeId} {fz : Nat × Nat} (hg : W.heap[g]? = some (.cells cs t fz)) (hb : g ≠ b) (ht : t ≠ 5) : W'.heap[g]? = some (.cells cs t fz) :=
  h.kept g _ hg (fun e => hb (Option.some.inj e)) (fun c z e => ht (by injection e))
theorem Bd.then_ {w0 : World} {b : Nat} {l : List UInt8} {W W' : World} (h : Bd w0 b l W) (k : Below W.heap.size W W') : Bd w0 b l W' := by
  have one : ∀ p, Lib.BuilderAtF 80 5 w0.heap.size b p (Lib.byteCells l) W → Lib.BuilderAtF 80 5 w0.heap.size b p (Lib.byteCells l) W' := by
    rintro p ⟨hB, v, hb, ho, hne⟩
    exact ⟨hB, v, (k.block b (Array.getElem?_eq_some_iff.1 hb).1).trans hb, ho.kept (grown_of_below k none) (by cases v.ownBlock <;> simp), hne⟩
  exact ⟨h.is.imp (one _) (one _), below_then h.low h.low.size k⟩

theorem Bd.lt {w0 : World} {b : Nat} {l : List UInt8} {W : World} (h : Bd w0 b l W) : b < W.heap.size := by
  rcases h.is with h | h
  · exact h.lt
  · exact h.lt

theorem WriteByte_b (w0 : World) (b : Nat) (l : List UInt8) (c : UInt8) (W : World) (h : Bd w0 b l W) (hlen : l.length + 1 ≤ 140737488355328) :
    Calls Tryd.prog 37 #[.pointer (some ⟨b, 0, none⟩), .int .u8 c.toNat] W fun e W' => e = .returned .nilIface ∧ Bd w0 b (l ++ [c]) W' ∧ Ok b W W' := by
  refine (WriteByte_k w0.heap.size b (Lib.byteCells l) c.toNat W h.is (by rw [Lib.byteCells_length]; exact hlen) h.low.size).mono ?_
  rintro e W' ⟨rfl, h1, h2, h3⟩
  rw [show Lib.byteCells l ++ [Value.int .u8 (c.toNat : Int)] = Lib.byteCells (l ++ [c]) by rw [Lib.byteCells_append]; rfl] at h1
  exact ⟨rfl, ⟨.inr h1, h.low.trans h2⟩, ⟨h3⟩⟩
theorem WriteString_b (w0 : World) (b : Nat) (l : List UInt8) (s : ByteArray) (W : World) (h : Bd w0 b l W) (hlen : l.length + s.size ≤ 140737488355328) :
    Calls Tryd.prog 36 #[.pointer (some ⟨b, 0, none⟩), .string s] W fun e W' => e = .returned (.tuple #[.int .i64 s.size, .nilIface]) ∧ Bd w0 b (l ++ s.data.toList) W' ∧ Ok b W W' := by
  refine (WriteString_k w0.heap.size b (Lib.byteCells l) s W h.is (by rw [Lib.byteCells_length]; exact hlen) h.low.size).mono ?_
  rintro e W' ⟨rfl, h1, h2, h3⟩
  rw [Lib.strCells_eq, ← Lib.byteCells_append] at h1
  exact ⟨rfl, ⟨.inr h1, h.low.trans h2⟩, ⟨h3⟩⟩

/-- A line. -/
def numsL (ns : List Int) : List UInt8 := ns.flatMap fun n => 32 :: Lib.itoa n
def lineL (word : List UInt8) (ns : List Int) : List UInt8 := word ++ numsL ns ++ [10]
theorem numsL_snoc (ns : List Int) (k : Nat) (hk : k < ns.length) : numsL (ns.take (k + 1)) = numsL (ns.take k) ++ [32] ++ Lib.itoa ns[k] := by
  unfold numsL
  rw [List.take_succ_eq_append_getElem hk, List.flatMap_append]
  simp
theorem numsL_take_le (ns : List Int) (k : Nat) : (numsL (ns.take k)).length ≤ (numsL ns).length := by
  have h : numsL ns = numsL (ns.take k) ++ numsL (ns.drop k) := by
    unfold numsL
    rw [← List.flatMap_append, List.take_append_drop]
  rw [h, List.length_append]
  omega

set_option maxHeartbeats 1000000 in
set_option maxRecDepth 100000 in
theorem line_go (w0 : World) (hG : GG w0) (b : Nat) (l : List UInt8) (word : ByteArray) (ns : List Int) (g : Nat) (W : World) (hI : Bd w0 b l W)
    (hns : ∀ n ∈ ns, -9223372036854775808 ≤ n ∧ n ≤ 9223372036854775807) (hlen : l.length + (lineL word.data.toList ns).length ≤ 140737488355328)
    (hg : W.heap[g]? = some (.cells (ns.map (Value.int .i64)).toArray 3 (0, 0))) (hgb : g ≠ b) (hnl : ns.length ≤ 1000) :
    Calls Tryd.prog 35 #[.string word, .slice (some ⟨g, 0, none⟩) ns.length ns.length, .pointer (some ⟨b, 0, none⟩)] W fun e W' => e = .returned (.tuple #[]) ∧ Bd w0 b (l ++ lineL word.data.toList ns) W' ∧ Ok b W W' := by
  have HG := Lib.hid hG
  have HI := Lib.hid hI
  have HN := Lib.hid hns
  have hll : (lineL word.data.toList ns).length = word.size + (numsL ns).length + 1 := by
    unfold lineL
    rw [List.length_append, List.length_append, Array.length_toList]
    rfl
  have HL := Lib.hid (show l.length + word.size + (numsL ns).length + 1 ≤ 140737488355328 by omega)
  have Hg := Lib.hid hg
  clear hG hI hns hlen hg hll
  go_enter Tryd.func35, Tryd.ntmps35
  go_wp2_with (go_at_call 36; refine (WriteString_b w0 b l word W HI.out (by have := HL.out; omega)).mono ?_; rintro e W1 ⟨rfl, hI1, hk1⟩)
  have HI1 := Lib.hid hI1
  have HK1 := Lib.hid hk1
  clear hI1 hk1
  go_loopw [11] (fun i wr => ∃ k : Nat, k ≤ ns.length ∧ i = .int .i64 k ∧ Hid (Bd w0 b (l ++ word.data.toList ++ numsL (ns.take k)) wr) ∧ Hid (Ok b W wr)) (fun i _ => ns.length - (intOf i).toNat)
  case atStart => exact ⟨0, Nat.zero_le _, rfl, by rw [List.take_zero]; exact Lib.hid (by simpa [numsL] using HI1.out), HK1⟩
  case round =>
    obtain ⟨k, hk, rfl, hI, hK⟩ := hrel
    have hb := hK.out.at_ Hg.out hgb (by decide)
    by_cases hlt : k < ns.length
    · have hc : wr.cell? ⟨g, k, none⟩ = some (.int .i64 ns[k]) := (blk_cell hb k).trans (by simp [hlt])
      obtain ⟨n, hn⟩ : ∃ n, n = ns[k] := ⟨_, rfl⟩
      rw [← hn] at hc
      have hr := HN.out n (by rw [hn]; exact List.getElem_mem hlt)
      have hle := numsL_take_le ns (k + 1)
      rw [numsL_snoc ns k hlt, ← hn, List.length_append, List.length_append] at hle
      have HS := Lib.hid (show l ++ word.data.toList ++ numsL (ns.take (k + 1)) = l ++ word.data.toList ++ numsL (ns.take k) ++ [32] ++ Lib.itoa n by rw [numsL_snoc ns k hlt, hn]; simp [List.append_assoc])
      have HE := Lib.hid hle
      have hit : strconv_Itoa.f n = some ⟨(Lib.itoa n).toArray⟩ := if_pos hr
      have HIt := Lib.hid hit
      have HR := Lib.hid hr
      have hwl : word.data.toList.length = word.size := by rw [Array.length_toList]; rfl
      have HW := Lib.hid hwl
      clear hn hle hit hr hwl hb
      go_wp2_with (go_at_call 37; refine (WriteByte_b w0 b _ 32 wr hI.out (by have h1 := HL.out; have h2 := HE.out; have h3 := HW.out; simp only [List.length_append, List.length_singleton] at h2 ⊢; omega)).mono ?_; rintro e W2 ⟨rfl, hI2, hk2⟩)
      have HI2 := Lib.hid hI2
      have HK2 := Lib.hid hk2
      clear hI2 hk2
      refine (strconv_Itoa.calls n _ W2 (HG.out.below HI2.out.low) HIt.out).mono ?_
      rintro e W3 ⟨rfl, hb3⟩
      have HI3 := Lib.hid (HI2.out.then_ hb3)
      have HK3 := Lib.hid (HK2.out.then_ hb3)
      clear hb3 HI2 HK2
      go_wp2_with fail
      refine (WriteString_b w0 b _ ⟨(Lib.itoa n).toArray⟩ W3 HI3.out (by have h1 := HL.out; have h2 := HE.out; have h3 := HW.out; simp only [List.length_append, List.length_singleton] at h2 ⊢; show _ + (Lib.itoa n).toArray.size ≤ _; simp only [List.size_toArray]; omega)).mono ?_
      rintro e W4 ⟨rfl, hI4, hk4⟩
      have HI4 := Lib.hid hI4
      have HK4 := Lib.hid (hK.out.trans (HK3.out.trans hk4))
      clear hI4 hk4 HI3 HK3 hc HIt HR
      go_wp2_with fail
      go_roundw
      case rel => exact ⟨k + 1, by omega, by go_num, by rw [HS.out]; exact HI4, HK4⟩
      case measure => simp [intOf]; omega
    · obtain rfl : k = ns.length := by omega
      have hI' := hI.out
      rw [List.take_length] at hI'
      have HI2 := Lib.hid hI'
      clear hI hI' hb
      have hwl : word.data.toList.length = word.size := by rw [Array.length_toList]; rfl
      have HW := Lib.hid hwl
      clear hwl
      go_wp2_with (go_at_call 37; refine (WriteByte_b w0 b _ 10 wr HI2.out (by have h1 := HL.out; have h3 := HW.out; simp only [List.length_append]; omega)).mono ?_; rintro e W2 ⟨rfl, hI2, hk2⟩)
      go_end0
      exact ⟨rfl, by simpa [lineL, List.append_assoc] using hI2, hK.out.trans hk2⟩
end Go.Proofs.YtndojpcjhkncgaaDoor.Q
end

section
namespace Go.Proofs.YtndojpcjhkncgaaDoor.Q
open Go Go.RowKit Go.Proofs.YtndojpcjhkncgaaDoorW.PrintWords
set_option linter.unusedVariables false
set_option linter.unusedSimpArgs false

def orderL (o : S45) : List UInt8 := lineL [111, 114, 100, 101, 114] [o.f0, o.f1, o.f2, o.f3, o.f4]
def fileL (num day : Int) (os : List S45) (s : Int) : List UInt8 := lineL [80, 65, 89] [num, day, os.length, s] ++ os.flatMap orderL

theorem flat_take_le {α : Type} (f : α → List UInt8) (os : List α) (k : Nat) (hk : k < os.length) : ((os.take k).flatMap f).length + (f os[k]).length ≤ (os.flatMap f).length := by
  have h : os.flatMap f = (os.take (k + 1)).flatMap f ++ (os.drop (k + 1)).flatMap f := by rw [← List.flatMap_append, List.take_append_drop]
  rw [h, List.length_append, List.take_succ_eq_append_getElem hk, List.flatMap_append, List.length_append]
  simp

set_option maxHeartbeats 1000000 in
set_option maxRecDepth 100000 in
theorem Write1_go (w0 : World) (hG : GG w0) (b gf : Nat) (l : List UInt8) (num day : Int) (A : Option Addr) (c : Nat) (os : List S45) (W : World) (hI : Bd w0 b l W)
    (hf : W.heap[gf]? = some (.cells #[.int .i64 num, .int .i64 day, .slice A os.length c] 24 (0, 0))) (hgf : gf ≠ b) (hC : Kd.C k45 w0 A os.length os) (hc : os.length ≤ c) (k : Nat) (s : Int) (hs : bank_total.f k num day os = some s)
    (hn : ∀ n ∈ [num, day, (os.length : Int), s], -9223372036854775808 ≤ n ∧ n ≤ 9223372036854775807) (ho : ∀ o ∈ os, ∀ n ∈ [o.f0, o.f1, o.f2, o.f3, o.f4], -9223372036854775808 ≤ n ∧ n ≤ 9223372036854775807)
    (hlen : l.length + (fileL num day os s).length ≤ 140737488355328) :
    Calls Tryd.prog 30 #[.func (.func 35) #[] #[.pointer (some ⟨b, 0, none⟩)], .pointer (some ⟨gf, 0, none⟩)] W fun e W' => e = .returned (.tuple #[]) ∧ Bd w0 b (l ++ fileL num day os s) W' ∧ Ok b W W' := by
  have hll : (lineL [80, 65, 89] [num, day, os.length, s]).length ≤ (fileL num day os s).length := by unfold fileL; rw [List.length_append]; omega
  have HLine : ∀ (w' : World) (g : Nat), Bd w0 b l w' → w'.heap[g]? = some (.cells #[.int .i64 num, .int .i64 day, .int .i64 os.length, .int .i64 s] 3 (0, 0)) → g ≠ b →
      Calls Tryd.prog 35 #[.string ⟨#[80, 65, 89]⟩, .slice (some ⟨g, 0, none⟩) 4 4, .pointer (some ⟨b, 0, none⟩)] w' fun e W' => e = .returned (.tuple #[]) ∧ Bd w0 b (l ++ lineL [80, 65, 89] [num, day, os.length, s]) W' ∧ Ok b w' W' :=
    fun w' g h1 h2 h3 => line_go w0 hG b l ⟨#[80, 65, 89]⟩ [num, day, os.length, s] g w' h1 hn (by exact Nat.le_trans (Nat.add_le_add_left hll _) hlen) h2 h3 (by simp)
  have HTot : ∀ w', Bd w0 b l w' → Calls Tryd.prog 28 #[.agg #[.int .i64 num, .int .i64 day, .slice A os.length c]] w' fun e w2 => e = .returned (.int .i64 s) ∧ Below w'.heap.size w' w2 :=
    fun w' h => bank_total.calls k num day A c os s w' (Kd.C_below hC h.low) hc hs
  have HL := Lib.hid HLine
  have HG0 := Lib.hid hG
  have HT := Lib.hid HTot
  have HI := Lib.hid hI
  have HC := Lib.hid hC
  have HO := Lib.hid ho
  have HN := Lib.hid hlen
  have HF := Lib.hid hf
  have c0 : W.cell? ⟨gf, 0, none⟩ = some (.int .i64 num) := blk_cell hf 0
  have c1 : W.cell? ⟨gf, 1, none⟩ = some (.int .i64 day) := blk_cell hf 1
  have c2 : W.cell? ⟨gf, 2, none⟩ = some (.slice A os.length c) := blk_cell hf 2
  clear HLine HTot hI hC ho hlen hf hn hs hG hll
  have hk1 : Ok b W W.drew := Ok.of_below (below_drew (Below.refl _ _))
  have hS : ∀ w', Ok b W w' → (w'.cell? ⟨gf, 0, none⟩ = some (.int .i64 num) ∧ w'.cell? ⟨gf, 1, none⟩ = some (.int .i64 day) ∧ w'.cell? ⟨gf, 2, none⟩ = some (.slice A os.length c)) :=
    fun w' h => have h := h.at_ HF.out hgf (by decide); ⟨blk_cell h 0, blk_cell h 1, blk_cell h 2⟩
  have HS := Lib.hid hS
  have HK1 := Lib.hid hk1
  have HI1 := Lib.hid (HI.out.then_ (below_drew (Below.refl W.heap.size W)))
  have HG := Lib.hid hgf
  clear hS hk1 hgf HI
  go_enter Tryd.func30, Tryd.ntmps30
  go_wp2_with fail
  go_region_held3 (fun w' => (w'.cell? ⟨gf, 0, none⟩ = some (.int .i64 num) ∧ w'.cell? ⟨gf, 1, none⟩ = some (.int .i64 day) ∧ w'.cell? ⟨gf, 2, none⟩ = some (.slice A os.length c))) (first | exact HS.out _ HK1.out | exact HS.out _ HK2.out | exact HS.out _ HK3.out | exact HS.out _ HK4.out)
    (first | (go_at_call 28; refine (HT.out _ HI1.out).mono ?_; rintro e w2 ⟨rfl, hb2⟩; have HI2 := Lib.hid (HI1.out.then_ hb2); have HK2 := Lib.hid (HK1.out.then_ hb2); have HK3 := Lib.hid (HK2.out.then_ (below_alloc (Below.refl w2.heap.size w2) (.cells #[.int .i64 num, .int .i64 day, .int .i64 os.length, .int .i64 s] 3))); have HI3 := Lib.hid (HI2.out.then_ (below_alloc (Below.refl w2.heap.size w2) (.cells #[.int .i64 num, .int .i64 day, .int .i64 os.length, .int .i64 s] 3))); have HB2 := Lib.hid hb2; clear hb2) | (go_at_call 35; refine (HL.out _ w2.heap.size HI3.out (heap_alloc_new w2 _) (fun e => Nat.lt_irrefl _ (Nat.lt_of_lt_of_eq HI2.out.lt e))).mono ?_; rintro e w3 ⟨rfl, hI4, hk4⟩; have HI4 := Lib.hid hI4; have HK4 := Lib.hid (HK3.out.trans hk4); clear hI4 hk4))
  clear HI1 HI2 HI3 HK1 HK2 HK3 HB2 c0 c1 c2 HT HL
  obtain ⟨d0, d1, d2⟩ := HS.out _ HK4.out
  clear d0 d1
  go_wp2_with fail
  go_loopw [20] (fun i wr => ∃ k : Nat, k ≤ os.length ∧ i = .int .i64 k ∧ Hid (Bd w0 b (l ++ lineL [80, 65, 89] [num, day, os.length, s] ++ (os.take k).flatMap orderL) wr) ∧ Hid (Ok b W wr)) (fun i _ => os.length - (intOf i).toNat)
  case atStart => exact ⟨0, Nat.zero_le _, rfl, Lib.hid (by simpa using HI4.out), HK4⟩
  case round =>
    obtain ⟨k, hk, rfl, hI, hK⟩ := hrel
    clear d2 HI4 HK4
    have hm : os.length ≤ 9223372036854775807 := HC.out.2.1
    by_cases hlt : k < os.length
    · obtain ⟨ad, rfl, e0, e1, e2, e3, e4⟩ := at_T45 (Kd.C_below HC.out hI.out.low) (k : Int) (by omega) (by omega)
      obtain ⟨o, hor⟩ : ∃ o, o = rd_T45 os (k : Int) := ⟨_, rfl⟩
      rw [← hor] at e0 e1 e2 e3 e4
      simp only [Int.toNat_natCast] at e0 e1 e2 e3 e4
      have HOR := Lib.hid hor
      clear hor
      have hlo : l.length + (lineL [80, 65, 89] [num, day, os.length, s]).length + ((os.take k).flatMap orderL).length + (orderL o).length ≤ 140737488355328 := by
        have h := HN.out
        have h2 := flat_take_le orderL os k hlt
        rw [show os[k] = o by rw [HOR.out]; unfold rd_T45; simp [hlt]] at h2
        unfold fileL at h
        rw [List.length_append] at h
        omega
      have hon := HO.out o (by rw [HOR.out]; unfold rd_T45; simp [hlt])
      have HOL := Lib.hid hlo
      have HON := Lib.hid hon
      clear hlo hon
      go_wp2_with fail
      have HB1 := Lib.hid (below_alloc (below_alloc (Below.refl wr.heap.size wr) (.cells #[.int .i64 o.f0, .int .i64 o.f1, .int .i64 o.f2, .int .i64 o.f3, .int .i64 o.f4] 45)) (.cells #[.int .i64 o.f0, .int .i64 o.f1, .int .i64 o.f2, .int .i64 o.f3, .int .i64 o.f4] 3))
      have hnb : wr.heap.size + 1 ≠ b := by have := hI.out.lt; omega
      refine (line_go w0 HG0.out b _ ⟨#[111, 114, 100, 101, 114]⟩ [o.f0, o.f1, o.f2, o.f3, o.f4] (wr.heap.size + 1) _ (hI.out.then_ HB1.out) HON.out (by rw [List.length_append, List.length_append]; exact HOL.out) (by have := heap_alloc_new (wr.alloc (.cells #[.int .i64 o.f0, .int .i64 o.f1, .int .i64 o.f2, .int .i64 o.f3, .int .i64 o.f4] 45)) (.cells #[.int .i64 o.f0, .int .i64 o.f1, .int .i64 o.f2, .int .i64 o.f3, .int .i64 o.f4] 3); rw [World.size_alloc] at this; exact this) hnb (by simp)).mono ?_
      rintro e w5 ⟨rfl, hI5, hk5⟩
      have HI5 := Lib.hid hI5
      have HK5 := Lib.hid ((hK.out.then_ HB1.out).trans hk5)
      have HS2 := Lib.hid (show l ++ lineL [80, 65, 89] [num, day, os.length, s] ++ (os.take (k + 1)).flatMap orderL = l ++ lineL [80, 65, 89] [num, day, os.length, s] ++ (os.take k).flatMap orderL ++ orderL o by
        rw [List.take_succ_eq_append_getElem hlt, List.flatMap_append, show os[k] = o by rw [HOR.out]; unfold rd_T45; simp [hlt]]
        simp [List.append_assoc])
      clear hI5 hk5 HB1 hnb e0 e1 e2 e3 e4 HOL HON
      go_wp2_with fail
      go_roundw
      case rel => exact ⟨k + 1, by omega, by go_num, Lib.hid (by rw [HS2.out]; exact HI5.out), HK5⟩
      case measure => simp [intOf]; omega
    · obtain rfl : k = os.length := by omega
      have hI' := hI.out
      rw [List.take_length] at hI'
      have HI2 := Lib.hid hI'
      clear hI hI'
      go_wp2_with fail
      go_end0
      exact ⟨rfl, by have := HI2.out; unfold fileL; rw [← List.append_assoc]; exact this, hK.out⟩
def returnL (o : S48) : List UInt8 := lineL [114, 101, 116, 117, 114, 110] [o.f0, o.f1]
def answerL (num day : Int) (os : List S48) : List UInt8 := lineL [66, 65, 67, 75] [num, day, os.length] ++ os.flatMap returnL

set_option maxHeartbeats 1000000 in
set_option maxRecDepth 100000 in
theorem WriteAnswer1_go (w0 : World) (hG : GG w0) (b gf : Nat) (l : List UInt8) (num day : Int) (A : Option Addr) (c : Nat) (os : List S48) (W : World) (hI : Bd w0 b l W)
    (hf : W.heap[gf]? = some (.cells #[.int .i64 num, .int .i64 day, .slice A os.length c] 27 (0, 0))) (hgf : gf ≠ b) (hC : Kd.C k48 w0 A os.length os) (hc : os.length ≤ c)
    (hn : ∀ n ∈ [num, day, (os.length : Int)], -9223372036854775808 ≤ n ∧ n ≤ 9223372036854775807) (ho : ∀ o ∈ os, ∀ n ∈ [o.f0, o.f1], -9223372036854775808 ≤ n ∧ n ≤ 9223372036854775807)
    (hlen : l.length + (answerL num day os).length ≤ 140737488355328) :
    Calls Tryd.prog 31 #[.func (.func 35) #[] #[.pointer (some ⟨b, 0, none⟩)], .pointer (some ⟨gf, 0, none⟩)] W fun e W' => e = .returned (.tuple #[]) ∧ Bd w0 b (l ++ answerL num day os) W' ∧ Ok b W W' := by
  have hll : (lineL [66, 65, 67, 75] [num, day, os.length]).length ≤ (answerL num day os).length := by unfold answerL; rw [List.length_append]; omega
  have HLine : ∀ (w' : World) (g : Nat), Bd w0 b l w' → w'.heap[g]? = some (.cells #[.int .i64 num, .int .i64 day, .int .i64 os.length] 3 (0, 0)) → g ≠ b →
      Calls Tryd.prog 35 #[.string ⟨#[66, 65, 67, 75]⟩, .slice (some ⟨g, 0, none⟩) 3 3, .pointer (some ⟨b, 0, none⟩)] w' fun e W' => e = .returned (.tuple #[]) ∧ Bd w0 b (l ++ lineL [66, 65, 67, 75] [num, day, os.length]) W' ∧ Ok b w' W' :=
    fun w' g h1 h2 h3 => line_go w0 hG b l ⟨#[66, 65, 67, 75]⟩ [num, day, os.length] g w' h1 hn (by exact Nat.le_trans (Nat.add_le_add_left hll _) hlen) h2 h3 (by simp)
  have HL := Lib.hid HLine
  have HG0 := Lib.hid hG
  have HI := Lib.hid hI
  have HC := Lib.hid hC
  have HO := Lib.hid ho
  have HN := Lib.hid hlen
  have HF := Lib.hid hf
  have c0 : W.cell? ⟨gf, 0, none⟩ = some (.int .i64 num) := blk_cell hf 0
  have c1 : W.cell? ⟨gf, 1, none⟩ = some (.int .i64 day) := blk_cell hf 1
  have c2 : W.cell? ⟨gf, 2, none⟩ = some (.slice A os.length c) := blk_cell hf 2
  clear HLine hI hC ho hlen hf hn hG hll
  have hS : ∀ w', Ok b W w' → (w'.cell? ⟨gf, 0, none⟩ = some (.int .i64 num) ∧ w'.cell? ⟨gf, 1, none⟩ = some (.int .i64 day) ∧ w'.cell? ⟨gf, 2, none⟩ = some (.slice A os.length c)) :=
    fun w' h => have h := h.at_ HF.out hgf (by decide); ⟨blk_cell h 0, blk_cell h 1, blk_cell h 2⟩
  have HS := Lib.hid hS
  have HG := Lib.hid hgf
  have HK3 := Lib.hid (Ok.of_below (b := b) (below_alloc (Below.refl W.heap.size W) (.cells #[.int .i64 num, .int .i64 day, .int .i64 os.length] 3)))
  have HI3 := Lib.hid (HI.out.then_ (below_alloc (Below.refl W.heap.size W) (.cells #[.int .i64 num, .int .i64 day, .int .i64 os.length] 3)))
  clear hS hgf
  go_enter Tryd.func31, Tryd.ntmps31
  go_wp2_with fail
  refine (HL.out _ W.heap.size HI3.out (heap_alloc_new W _) (fun e => Nat.lt_irrefl _ (Nat.lt_of_lt_of_eq HI.out.lt e))).mono ?_
  rintro e w3 ⟨rfl, hI4, hk4⟩
  have HI4 := Lib.hid hI4
  have HK4 := Lib.hid (HK3.out.trans hk4)
  clear hI4 hk4 HI3 HK3 c0 c1 c2 HL
  obtain ⟨d0, d1, d2⟩ := HS.out _ HK4.out
  clear d0 d1
  go_wp2_with fail
  go_loopw [18] (fun i wr => ∃ k : Nat, k ≤ os.length ∧ i = .int .i64 k ∧ Hid (Bd w0 b (l ++ lineL [66, 65, 67, 75] [num, day, os.length] ++ (os.take k).flatMap returnL) wr) ∧ Hid (Ok b W wr)) (fun i _ => os.length - (intOf i).toNat)
  case atStart => exact ⟨0, Nat.zero_le _, rfl, Lib.hid (by simpa using HI4.out), HK4⟩
  case round =>
    obtain ⟨k, hk, rfl, hI, hK⟩ := hrel
    clear d2 HI4 HK4
    have hm : os.length ≤ 9223372036854775807 := HC.out.2.1
    by_cases hlt : k < os.length
    · obtain ⟨ad, rfl, e0, e1⟩ := at_T48 (Kd.C_below HC.out hI.out.low) (k : Int) (by omega) (by omega)
      obtain ⟨o, hor⟩ : ∃ o, o = rd_T48 os (k : Int) := ⟨_, rfl⟩
      rw [← hor] at e0 e1
      simp only [Int.toNat_natCast] at e0 e1
      have HOR := Lib.hid hor
      clear hor
      have hlo : l.length + (lineL [66, 65, 67, 75] [num, day, os.length]).length + ((os.take k).flatMap returnL).length + (returnL o).length ≤ 140737488355328 := by
        have h := HN.out
        have h2 := flat_take_le returnL os k hlt
        rw [show os[k] = o by rw [HOR.out]; unfold rd_T48; simp [hlt]] at h2
        unfold answerL at h
        rw [List.length_append] at h
        omega
      have hon := HO.out o (by rw [HOR.out]; unfold rd_T48; simp [hlt])
      have HOL := Lib.hid hlo
      have HON := Lib.hid hon
      clear hlo hon
      go_wp2_with fail
      have HB1 := Lib.hid (below_alloc (below_alloc (Below.refl wr.heap.size wr) (.cells #[.int .i64 o.f0, .int .i64 o.f1] 48)) (.cells #[.int .i64 o.f0, .int .i64 o.f1] 3))
      have hnb : wr.heap.size + 1 ≠ b := by have := hI.out.lt; omega
      refine (line_go w0 HG0.out b _ ⟨#[114, 101, 116, 117, 114, 110]⟩ [o.f0, o.f1] (wr.heap.size + 1) _ (hI.out.then_ HB1.out) HON.out (by rw [List.length_append, List.length_append]; exact HOL.out) (by have := heap_alloc_new (wr.alloc (.cells #[.int .i64 o.f0, .int .i64 o.f1] 48)) (.cells #[.int .i64 o.f0, .int .i64 o.f1] 3); rw [World.size_alloc] at this; exact this) hnb (by simp)).mono ?_
      rintro e w5 ⟨rfl, hI5, hk5⟩
      have HI5 := Lib.hid hI5
      have HK5 := Lib.hid ((hK.out.then_ HB1.out).trans hk5)
      have HS2 := Lib.hid (show l ++ lineL [66, 65, 67, 75] [num, day, os.length] ++ (os.take (k + 1)).flatMap returnL = l ++ lineL [66, 65, 67, 75] [num, day, os.length] ++ (os.take k).flatMap returnL ++ returnL o by
        rw [List.take_succ_eq_append_getElem hlt, List.flatMap_append, show os[k] = o by rw [HOR.out]; unfold rd_T48; simp [hlt]]
        simp [List.append_assoc])
      clear hI5 hk5 HB1 hnb e0 e1 HOL HON
      go_wp2_with fail
      go_roundw
      case rel => exact ⟨k + 1, by omega, by go_num, Lib.hid (by rw [HS2.out]; exact HI5.out), HK5⟩
      case measure => simp [intOf]; omega
    · obtain rfl : k = os.length := by omega
      have hI' := hI.out
      rw [List.take_length] at hI'
      have HI2 := Lib.hid hI'
      clear hI hI'
      go_wp2_with fail
      go_end0
      exact ⟨rfl, by have := HI2.out; unfold answerL; rw [← List.append_assoc]; exact this, hK.out⟩
end Go.Proofs.YtndojpcjhkncgaaDoor.Q
end

section
namespace Go.Proofs.YtndojpcjhkncgaaDoor.Q
open Go.RowKit Go.Proofs.YtndojpcjhkncgaaDoorW.PrintWords Go.Proofs.YtndojpcjhkncgaaDoorW.PrintLast Go.Proofs.YtndojpcjhkncgaaDoorW.PrintMore
attribute [local go_sem] max2_int min2_int max_two min_two max_three min_three max_four min_four   -- for this text's walks alone
set_option linter.unusedVariables false
set_option linter.unusedSimpArgs false

/-! ### bank_end: function 40 -/
def bank_end.l0 : Nat → ByteArray → Int → Int → Int → Int → Option (ByteArray)
 | 0, _, _, _, _, _ => none
 | k + 1, x0, x3, x4, x7, x8 => if x8 < x7 then (if 0 ≤ x8 then (if x8 < (x0.size : Int) then (bank_end.l0 k x0 ((x3 + ((bt x0 x8) % 4294967296)) % 4294967296) ((x4 + ((((wrap64 (x8 + 1)) % 4294967296) * ((bt x0 x8) % 4294967296)) % 4294967296)) % 4294967296) x7 (wrap64 (x8 + 1))) else (none)) else (none)) else ((bank_hex.f x3).bind fun t168 => (if 4 + t168.size ≤ 9223372036854775807 then (if 4 + t168.size + 1 ≤ 9223372036854775807 then ((bank_hex.f x4).bind fun t169 => (if 4 + t168.size + 1 + t169.size ≤ 9223372036854775807 then (if 4 + t168.size + 1 + t169.size + 1 ≤ 9223372036854775807 then (some (((((⟨#[69, 78, 68, 32]⟩ : ByteArray) ++ t168) ++ (⟨#[32]⟩ : ByteArray)) ++ t169) ++ (⟨#[10]⟩ : ByteArray))) else (none)) else (none))) else (none)) else (none)))
def bank_end.f (k : Nat) (a0 : ByteArray) : Option (ByteArray) := bank_end.l0 k a0 0 0 (a0.size : Int) 0
theorem bank_end.mono_l : ∀ k, (∀ y0 y1 y2 y3 y4, LeO (bank_end.l0 k y0 y1 y2 y3 y4) (bank_end.l0 (k + 1) y0 y1 y2 y3 y4))
 | 0 => fun _ _ _ _ _ r h => by simp [bank_end.l0] at h
 | k + 1 => by
  have ih0 := bank_end.mono_l k
  ·
   intro y0 y1 y2 y3 y4
   unfold bank_end.l0
   repeat' first
   | (with_reducible exact ih0 _ _ _ _ _)
   | (with_reducible exact LeO.refl _)
   | (with_reducible exact LeO.none _)
   | (with_reducible refine LeO.ite ?_ ?_)
   | (with_reducible refine LeO.bind ?_ (fun _ => ?_))
   | exact ih0 _ _ _ _ _
   | exact LeO.none _
   | refine LeO.ite ?_ ?_
   | refine LeO.bind ?_ (fun _ => ?_)
theorem bank_end.mono : ∀ a0 k, LeO (bank_end.f k a0) (bank_end.f (k + 1) a0) := by
 intro a0 k
 have ih0 := bank_end.mono_l k
 unfold bank_end.f
 repeat' first
   | (with_reducible exact ih0 _ _ _ _ _)
   | (with_reducible exact LeO.refl _)
   | (with_reducible exact LeO.none _)
   | (with_reducible refine LeO.ite ?_ ?_)
   | (with_reducible refine LeO.bind ?_ (fun _ => ?_))
   | exact ih0 _ _ _ _ _
   | exact LeO.none _
   | refine LeO.ite ?_ ?_
   | refine LeO.bind ?_ (fun _ => ?_)
set_option maxHeartbeats 8000000 in
set_option maxRecDepth 100000 in
theorem bank_end.calls (k : Nat) (a0 : ByteArray) (r : ByteArray) (w : World) (hG : GG w) (h : bank_end.f k a0 = some r) :
  Calls Tryd.prog 40 #[.string a0] w fun e w' => e = .returned (.string r) ∧ Below w.heap.size w w' := by
 have HG := Aside0.mk hG
 clear hG
 have HB := Aside0.mk (Below.refl w.heap.size w)
 have H : (bank_end.l0 k a0 0 0 (a0.size : Int) 0) = some r := h
 clear h
 have H' := Aside0.mk H
 clear H
 go_enter Tryd.func40, Tryd.ntmps40
 go_wp2
 go_loopg [3, 4, 8] k (fun kq v3 v4 v8 w' => ∃ (x3_1 : Int) (x4_1 : Int) (x8_1 : Int), v3 = .int .u32 x3_1 ∧ v4 = .int .u32 x4_1 ∧ v8 = .int .i64 x8_1 ∧ Aside0 (bank_end.l0 kq a0 x3_1 x4_1 (a0.size : Int) x8_1 = some r) ∧ Aside0 (kq ≤ k) ∧ Aside0 (Below w.heap.size w w'))
 case atStart => exact ⟨(0), (0), (0), (by first | rfl | (simp; done) | (simp [*]; done)), (by first | rfl | (simp; done) | (simp [*]; done)), (by first | rfl | (simp; done) | (simp [*]; done)), H', ⟨Nat.le_refl _⟩, ⟨by repeat (first | (with_reducible first | exact HB.out | apply below_alloc | apply pw_below_drewN | apply below_drew1) | exact HB.out)⟩⟩
 case round =>
  clear H'
  obtain ⟨x3_1, x4_1, x8_1, rfl, rfl, rfl, HA, HK1, HB⟩ := hrel
  cases gk with
  | zero => exact absurd HA.out (by simp [bank_end.l0])
  | succ k1 =>
   have H := HA.out
   clear HA
   simp only [bank_end.l0] at H
   by_cases c2 : x8_1 < (a0.size : Int)
   ·
    rw [if_pos c2] at H
    have c2b0 : decide (x8_1 < (a0.size : Int)) = true := decide_eq_true c2
    clear c2
    by_cases c3 : 0 ≤ x8_1
    ·
     rw [if_pos c3] at H
     have c3b0 : decide (0 ≤ x8_1) = true := decide_eq_true c3
     clear c3
     by_cases c4 : x8_1 < (a0.size : Int)
     ·
      rw [if_pos c4] at H
      have c4b0 : decide (x8_1 < (a0.size : Int)) = true := decide_eq_true c4
      clear c4
      have H' := Aside0.mk H
      clear H
      have p5 : 0 ≤ (x8_1 : Int) := of_decide_eq_true (by first | (with_reducible assumption) | assumption)
      have q5 : x8_1 < (a0.size : Int) := of_decide_eq_true (by first | (with_reducible assumption) | assumption)
      have hx5 := bt_at a0 x8_1
      replace p5 := eq_true p5
      replace q5 := eq_true q5
      have p6 : 0 ≤ (x8_1 : Int) := of_decide_eq_true (by first | (with_reducible assumption) | assumption)
      have q6 : x8_1 < (a0.size : Int) := of_decide_eq_true (by first | (with_reducible assumption) | assumption)
      have hx6 := bt_at a0 x8_1
      replace p6 := eq_true p6
      replace q6 := eq_true q6
      go_wp2
      go_roundg k1
      case measure => have := HK1.out; omega
      case rel => exact ⟨((x3_1 + ((bt a0 x8_1) % 4294967296)) % 4294967296), ((x4_1 + ((((wrap64 (x8_1 + 1)) % 4294967296) * ((bt a0 x8_1) % 4294967296)) % 4294967296)) % 4294967296), (wrap64 (x8_1 + 1)), (by first | rfl | (simp; done) | (simp [*]; done)), (by first | rfl | (simp; done) | (simp [*]; done)), (by first | rfl | (simp; done) | (simp [*]; done)), H', ⟨by have := HK1.out; omega⟩, ⟨by repeat (first | (with_reducible first | exact HB.out | apply below_alloc | apply pw_below_drewN | apply below_drew1) | exact HB.out)⟩⟩
     ·
      rw [if_neg c4] at H
      exact absurd H (by simp)
    ·
     rw [if_neg c3] at H
     exact absurd H (by simp)
   ·
    rw [if_neg c2] at H
    have c2b0 : decide (x8_1 < (a0.size : Int)) = false := decide_eq_false c2
    clear c2
    replace H := Option.bind_eq_some_iff.mp H
    obtain ⟨t168, A70, H⟩ := H
    replace H : (if 4 + t168.size ≤ 9223372036854775807 then (if 4 + t168.size + 1 ≤ 9223372036854775807 then ((bank_hex.f x4_1).bind fun t169 => (if 4 + t168.size + 1 + t169.size ≤ 9223372036854775807 then (if 4 + t168.size + 1 + t169.size + 1 ≤ 9223372036854775807 then (some (((((⟨#[69, 78, 68, 32]⟩ : ByteArray) ++ t168) ++ (⟨#[32]⟩ : ByteArray)) ++ t169) ++ (⟨#[10]⟩ : ByteArray))) else (none)) else (none))) else (none)) else (none)) = some r := H
    have A7 := Aside0.mk A70
    clear A70
    by_cases c8 : 4 + t168.size ≤ 9223372036854775807
    ·
     rw [if_pos c8] at H
     have c8b0 := eq_true c8
     have c8b1 : decide (4 + t168.size ≤ 9223372036854775807) = true := decide_eq_true c8
     try have c8b2 : (9223372036854775807 < 4 + t168.size) = False := eq_false (Nat.not_lt.2 c8)
     by_cases c9 : 4 + t168.size + 1 ≤ 9223372036854775807
     ·
      rw [if_pos c9] at H
      have c9b0 := eq_true c9
      have c9b1 : decide (4 + t168.size + 1 ≤ 9223372036854775807) = true := decide_eq_true c9
      try have c9b2 : (9223372036854775807 < 4 + t168.size + 1) = False := eq_false (Nat.not_lt.2 c9)
      replace H := Option.bind_eq_some_iff.mp H
      obtain ⟨t169, A100, H⟩ := H
      replace H : (if 4 + t168.size + 1 + t169.size ≤ 9223372036854775807 then (if 4 + t168.size + 1 + t169.size + 1 ≤ 9223372036854775807 then (some (((((⟨#[69, 78, 68, 32]⟩ : ByteArray) ++ t168) ++ (⟨#[32]⟩ : ByteArray)) ++ t169) ++ (⟨#[10]⟩ : ByteArray))) else (none)) else (none)) = some r := H
      have A10 := Aside0.mk A100
      clear A100
      by_cases c11 : 4 + t168.size + 1 + t169.size ≤ 9223372036854775807
      ·
       rw [if_pos c11] at H
       have c11b0 := eq_true c11
       have c11b1 : decide (4 + t168.size + 1 + t169.size ≤ 9223372036854775807) = true := decide_eq_true c11
       try have c11b2 : (9223372036854775807 < 4 + t168.size + 1 + t169.size) = False := eq_false (Nat.not_lt.2 c11)
       by_cases c12 : 4 + t168.size + 1 + t169.size + 1 ≤ 9223372036854775807
       ·
        rw [if_pos c12] at H
        have c12b0 := eq_true c12
        have c12b1 : decide (4 + t168.size + 1 + t169.size + 1 ≤ 9223372036854775807) = true := decide_eq_true c12
        try have c12b2 : (9223372036854775807 < 4 + t168.size + 1 + t169.size + 1) = False := eq_false (Nat.not_lt.2 c12)
        obtain rfl := Option.some.inj H
        go_wp2_with (first | ((with_reducible refine gate_callee (f := 45) rfl ?_); refine goesL_ (some 29) rfl rfl Tryd.func45 (by kernel_rfl) rfl #[.int .u32 x3_1] rfl (by (try simp only [List.map_toArray, List.map_cons, List.map_nil]); first | done | rfl | (simp only [List.length_drop, List.length_take]; rfl)) ?_; (with_reducible refine (bank_hex.calls x3_1 t168 _ ?side1 A7.out).mono ?_); (case side1 => exact GG.below HG.out (by repeat (first | (with_reducible first | exact HB.out | apply below_alloc | apply pw_below_drewN | apply below_drew1) | exact HB.out))); rintro e w13 ⟨rfl, hb⟩; refine ⟨_, rfl, ?_⟩; have n0_ := Aside0.mk (below_step (by repeat (first | (with_reducible first | exact HB.out | apply below_alloc | apply pw_below_drewN | apply below_drew1) | exact HB.out)) hb); clear HB; have HB := n0_; clear n0_; (try clear hb); (try clear hb2); (try clear hk); (try clear hi)) | ((with_reducible refine gate_callee (f := 45) rfl ?_); refine goesL_ (some 33) rfl rfl Tryd.func45 (by kernel_rfl) rfl #[.int .u32 x4_1] rfl (by (try simp only [List.map_toArray, List.map_cons, List.map_nil]); first | done | rfl | (simp only [List.length_drop, List.length_take]; rfl)) ?_; (with_reducible refine (bank_hex.calls x4_1 t169 _ ?side1 A10.out).mono ?_); (case side1 => exact GG.below HG.out (by repeat (first | (with_reducible first | exact HB.out | apply below_alloc | apply pw_below_drewN | apply below_drew1) | exact HB.out))); rintro e w14 ⟨rfl, hb⟩; refine ⟨_, rfl, ?_⟩; have n0_ := Aside0.mk (below_step (by repeat (first | (with_reducible first | exact HB.out | apply below_alloc | apply pw_below_drewN | apply below_drew1) | exact HB.out)) hb); clear HB; have HB := n0_; clear n0_; (try clear hb); (try clear hb2); (try clear hk); (try clear hi)))
        go_ret
        exact ⟨by first | rfl | (simp [errW_none, errW_some] <;> rfl) | (simp [*, errW_none, errW_some] <;> rfl), by repeat (first | (with_reducible first | exact HB.out | apply below_alloc | apply pw_below_drewN | apply below_drew1) | exact HB.out)⟩
       ·
        rw [if_neg c12] at H
        exact absurd H (by simp)
      ·
       rw [if_neg c11] at H
       exact absurd H (by simp)
     ·
      rw [if_neg c9] at H
      exact absurd H (by simp)
    ·
     rw [if_neg c8] at H
     exact absurd H (by simp)

end Go.Proofs.YtndojpcjhkncgaaDoor.Q
end

section
namespace Go.Proofs.YtndojpcjhkncgaaDoor.Q
open Go Go.RowKit Go.Proofs.YtndojpcjhkncgaaDoorW.PrintWords Go.Proofs.YtndojpcjhkncgaaDoorW.PrintLast Go.Proofs.YtndojpcjhkncgaaDoorW.PrintMore
set_option linter.unusedVariables false
set_option linter.unusedSimpArgs false

theorem String_b (w0 : World) (b : Nat) (l : List UInt8) (W : World) (h : Bd w0 b l W) :
    Calls Tryd.prog 39 #[.pointer (some ⟨b, 0, none⟩)] W fun e W' => e = .returned (.string ⟨l.toArray⟩) ∧ Bd w0 b l W' ∧ Ok b W W' := by
  refine (Tryd.Builder_String_any_k w0.heap.size b l W h.is h.low.size).mono ?_
  rintro e W' ⟨rfl, h1, h2, h3⟩
  exact ⟨rfl, ⟨h1, h.low.trans h2⟩, ⟨h3⟩⟩
/-- A new builder. -/
theorem Bd.new (w0 W : World) (h : Below w0.heap.size w0 W) : Bd w0 W.heap.size [] (W.alloc (.cells #[.pointer none, .slice none 0 0] 80)) := by
  refine ⟨.inl ⟨h.size, _, heap_alloc_new W _, ?_, by simp [Value.ownBlock]⟩, below_alloc h _⟩
  exact World.ownsRowF_nil _ _ _ _

/-- A body, with its end. -/
def closedL (k : Nat) (l : List UInt8) : Option ByteArray :=
  if l.length ≤ 140737488355328 then (bank_end.f k ⟨l.toArray⟩).bind fun e => if l.length + e.size ≤ 9223372036854775807 then some ((⟨l.toArray⟩ : ByteArray) ++ e) else none else none

set_option maxHeartbeats 1000000 in
set_option maxRecDepth 100000 in
theorem written_W (w0 : World) (hG : GG w0) (W : World) (hB : Below w0.heap.size w0 W) (gf : Nat) (l : List UInt8) (k : Nat) (r : ByteArray) (hr : closedL k l = some r) (hgf : gf < W.heap.size) (cs : Array Value) (t : TypeId) (ht : t ≠ 5) (hf : W.heap[gf]? = some (.cells cs t (0, 0)))
    (hL : ∀ b W', Bd w0 b [] W' → W'.heap[gf]? = some (.cells cs t (0, 0)) → gf ≠ b → Calls Tryd.prog 30 #[.func (.func 35) #[] #[.pointer (some ⟨b, 0, none⟩)], .pointer (some ⟨gf, 0, none⟩)] W' fun e W2 => e = .returned (.tuple #[]) ∧ Bd w0 b l W2 ∧ Ok b W' W2) :
    Calls Tryd.prog 29 #[.func (.func 30) #[] #[.pointer (some ⟨gf, 0, none⟩)]] W fun e W' => e = .returned (.string r) ∧ Below w0.heap.size w0 W' := by
  obtain ⟨hll, e, he, hle, hre⟩ : l.length ≤ 140737488355328 ∧ ∃ e, bank_end.f k ⟨l.toArray⟩ = some e ∧ l.length + e.size ≤ 9223372036854775807 ∧ (⟨l.toArray⟩ : ByteArray) ++ e = r := by
    unfold closedL at hr
    split at hr
    · rename_i h1
      obtain ⟨e, he, hr⟩ := Option.bind_eq_some_iff.mp hr
      split at hr
      · rename_i h2
        exact ⟨h1, e, he, h2, Option.some.inj hr⟩
      · cases hr
    · cases hr
  have HN := Lib.hid (hL W.heap.size _ (Bd.new w0 W hB) ((below_alloc (Below.refl W.heap.size W) _).block gf hgf |>.trans hf) (by omega))
  obtain ⟨s, hs⟩ : ∃ s : ByteArray, s = ⟨l.toArray⟩ := ⟨_, rfl⟩
  have hsz : s.size + e.size ≤ 9223372036854775807 := by rw [hs]; show l.toArray.size + _ ≤ _; rw [List.size_toArray]; exact hle
  have HStr : ∀ W', Bd w0 W.heap.size l W' → Calls Tryd.prog 39 #[.pointer (some ⟨W.heap.size, 0, none⟩)] W' fun e W2 => e = .returned (.string s) ∧ Bd w0 W.heap.size l W2 ∧ Ok W.heap.size W' W2 := by rw [hs]; exact fun W' h => String_b w0 _ l W' h
  have HEnd : ∀ W', Below w0.heap.size w0 W' → Calls Tryd.prog 40 #[.string s] W' fun e' W2 => e' = .returned (.string e) ∧ Below W'.heap.size W' W2 := fun W' h => by rw [hs]; exact bank_end.calls k _ e W' (hG.below h) he
  have HS := Lib.hid HStr
  have HE := Lib.hid HEnd
  have HR := Lib.hid (show s ++ e = r by rw [hs]; exact hre)
  clear hL hr hG hB hll he hle hre hs HStr HEnd hf hgf ht
  go_enter Tryd.func29, Tryd.ntmps29
  go_wp2_with fail
  refine HN.out.mono ?_
  rintro e1 W1 ⟨rfl, hI1, hk1⟩
  have HI1 := Lib.hid hI1
  clear hI1 hk1 HN
  go_wp2_with fail
  refine (HS.out _ HI1.out).mono ?_
  rintro e1 W2 ⟨rfl, hI2, hk2⟩
  have HI2 := Lib.hid hI2
  clear hI2 hk2
  go_wp2_with fail
  refine (HS.out _ HI2.out).mono ?_
  rintro e1 W3 ⟨rfl, hI3, hk3⟩
  have HI3 := Lib.hid hI3
  clear hI3 hk3
  go_wp2_with fail
  refine (HE.out _ HI3.out.low).mono ?_
  rintro e1 W4 ⟨rfl, hb4⟩
  have HB4 := Lib.hid (below_then HI3.out.low HI3.out.low.size hb4)
  clear hb4
  go_wp2_with fail
  go_ret
  exact ⟨by rw [← HR.out]; rfl, HB4.out⟩
set_option maxHeartbeats 1000000 in
set_option maxRecDepth 100000 in
theorem written_A (w0 : World) (hG : GG w0) (W : World) (hB : Below w0.heap.size w0 W) (gf : Nat) (l : List UInt8) (k : Nat) (r : ByteArray) (hr : closedL k l = some r) (hgf : gf < W.heap.size) (cs : Array Value) (t : TypeId) (ht : t ≠ 5) (hf : W.heap[gf]? = some (.cells cs t (0, 0)))
    (hL : ∀ b W', Bd w0 b [] W' → W'.heap[gf]? = some (.cells cs t (0, 0)) → gf ≠ b → Calls Tryd.prog 31 #[.func (.func 35) #[] #[.pointer (some ⟨b, 0, none⟩)], .pointer (some ⟨gf, 0, none⟩)] W' fun e W2 => e = .returned (.tuple #[]) ∧ Bd w0 b l W2 ∧ Ok b W' W2) :
    Calls Tryd.prog 29 #[.func (.func 31) #[] #[.pointer (some ⟨gf, 0, none⟩)]] W fun e W' => e = .returned (.string r) ∧ Below w0.heap.size w0 W' := by
  obtain ⟨hll, e, he, hle, hre⟩ : l.length ≤ 140737488355328 ∧ ∃ e, bank_end.f k ⟨l.toArray⟩ = some e ∧ l.length + e.size ≤ 9223372036854775807 ∧ (⟨l.toArray⟩ : ByteArray) ++ e = r := by
    unfold closedL at hr
    split at hr
    · rename_i h1
      obtain ⟨e, he, hr⟩ := Option.bind_eq_some_iff.mp hr
      split at hr
      · rename_i h2
        exact ⟨h1, e, he, h2, Option.some.inj hr⟩
      · cases hr
    · cases hr
  have HN := Lib.hid (hL W.heap.size _ (Bd.new w0 W hB) ((below_alloc (Below.refl W.heap.size W) _).block gf hgf |>.trans hf) (by omega))
  obtain ⟨s, hs⟩ : ∃ s : ByteArray, s = ⟨l.toArray⟩ := ⟨_, rfl⟩
  have hsz : s.size + e.size ≤ 9223372036854775807 := by rw [hs]; show l.toArray.size + _ ≤ _; rw [List.size_toArray]; exact hle
  have HStr : ∀ W', Bd w0 W.heap.size l W' → Calls Tryd.prog 39 #[.pointer (some ⟨W.heap.size, 0, none⟩)] W' fun e W2 => e = .returned (.string s) ∧ Bd w0 W.heap.size l W2 ∧ Ok W.heap.size W' W2 := by rw [hs]; exact fun W' h => String_b w0 _ l W' h
  have HEnd : ∀ W', Below w0.heap.size w0 W' → Calls Tryd.prog 40 #[.string s] W' fun e' W2 => e' = .returned (.string e) ∧ Below W'.heap.size W' W2 := fun W' h => by rw [hs]; exact bank_end.calls k _ e W' (hG.below h) he
  have HS := Lib.hid HStr
  have HE := Lib.hid HEnd
  have HR := Lib.hid (show s ++ e = r by rw [hs]; exact hre)
  clear hL hr hG hB hll he hle hre hs HStr HEnd hf hgf ht
  go_enter Tryd.func29, Tryd.ntmps29
  go_wp2_with fail
  refine HN.out.mono ?_
  rintro e1 W1 ⟨rfl, hI1, hk1⟩
  have HI1 := Lib.hid hI1
  clear hI1 hk1 HN
  go_wp2_with fail
  refine (HS.out _ HI1.out).mono ?_
  rintro e1 W2 ⟨rfl, hI2, hk2⟩
  have HI2 := Lib.hid hI2
  clear hI2 hk2
  go_wp2_with fail
  refine (HS.out _ HI2.out).mono ?_
  rintro e1 W3 ⟨rfl, hI3, hk3⟩
  have HI3 := Lib.hid hI3
  clear hI3 hk3
  go_wp2_with fail
  refine (HE.out _ HI3.out.low).mono ?_
  rintro e1 W4 ⟨rfl, hb4⟩
  have HB4 := Lib.hid (below_then HI3.out.low HI3.out.low.size hb4)
  clear hb4
  go_wp2_with fail
  go_ret
  exact ⟨by rw [← HR.out]; rfl, HB4.out⟩
/-- Numbers of 64 bits. -/
def intOk (n : Int) : Bool := decide (-9223372036854775808 ≤ n) && decide (n ≤ 9223372036854775807)
theorem intOk_all {l : List Int} (h : l.all intOk = true) : ∀ n ∈ l, -9223372036854775808 ≤ n ∧ n ≤ 9223372036854775807 := by
  intro n hn
  have := List.all_eq_true.mp h n hn
  simpa [intOk] using this
def fitsF (a0 a1 : Int) (l : List S45) (s : Int) : Bool := [a0, a1, (l.length : Int), s].all intOk && l.all fun o => [o.f0, o.f1, o.f2, o.f3, o.f4].all intOk
def fitsA (a0 a1 : Int) (l : List S48) : Bool := [a0, a1, (l.length : Int)].all intOk && l.all fun o => [o.f0, o.f1].all intOk
def bank_Write.f (k : Nat) (a0 a1 : Int) (l : List S45) : Option (ByteArray × Int) := (bank_Valid.f k a0 a1 l).bind fun t => if t = true then ((bank_total.f k a0 a1 l).bind fun s => if fitsF a0 a1 l s = true then ((closedL k (fileL a0 a1 l s)).bind fun x => some (x, 0)) else none) else some (⟨#[]⟩, 2)
def bank_WriteAnswer.f (k : Nat) (a0 a1 : Int) (l : List S48) : Option (ByteArray × Int) := (bank_Right.f k a0 a1 l).bind fun t => if t = true then (if fitsA a0 a1 l = true then ((closedL k (answerL a0 a1 l)).bind fun x => some (x, 0)) else none) else some (⟨#[]⟩, 2)
theorem closedL.mono (k : Nat) (l : List UInt8) : LeO (closedL k l) (closedL (k + 1) l) := by
  unfold closedL
  exact LeO.ite (LeO.bind (bank_end.mono _ _) fun _ => LeO.refl _) (LeO.none _)
theorem bank_Write.mono : ∀ a0 a1 a2 k, LeO (bank_Write.f k a0 a1 a2) (bank_Write.f (k + 1) a0 a1 a2) := by
  intro a0 a1 a2 k
  unfold bank_Write.f
  exact LeO.bind (bank_Valid.mono _ _ _ _) fun _ => LeO.ite (LeO.bind (bank_total.mono _ _ _ _) fun _ => LeO.ite (LeO.bind (closedL.mono _ _) fun _ => LeO.refl _) (LeO.none _)) (LeO.refl _)
theorem bank_WriteAnswer.mono : ∀ a0 a1 a2 k, LeO (bank_WriteAnswer.f k a0 a1 a2) (bank_WriteAnswer.f (k + 1) a0 a1 a2) := by
  intro a0 a1 a2 k
  unfold bank_WriteAnswer.f
  exact LeO.bind (bank_Right.mono _ _ _ _) fun _ => LeO.ite (LeO.ite (LeO.bind (closedL.mono _ _) fun _ => LeO.refl _) (LeO.none _)) (LeO.refl _)

set_option maxHeartbeats 1000000 in
set_option maxRecDepth 100000 in
theorem bank_Write.calls (k : Nat) (a0_0 : Int) (a0_1 : Int) (A0_2 : Option Addr) (c0_2 : Nat) (l0_2 : List (S45)) (r1 : ByteArray) (r2 : Int) (w : World) (hr0_2 : Kd.C k45 w A0_2 l0_2.length l0_2) (hc0_2 : l0_2.length ≤ c0_2) (hG : GG w) (h : bank_Write.f k a0_0 a0_1 l0_2 = some (r1, r2)) :
    Calls Tryd.prog 19 #[.agg #[.int .i64 a0_0, .int .i64 a0_1, .slice A0_2 l0_2.length c0_2]] w fun e w' => e = .returned (.tuple #[.string r1, .int .i64 r2]) ∧ Below w.heap.size w w' := by
  have hb0 := below_alloc (Below.refl w.heap.size w) (.cells #[.int .i64 a0_0, .int .i64 a0_1, .slice A0_2 l0_2.length c0_2] 24)
  have hf0 := heap_alloc_new w (.cells #[.int .i64 a0_0, .int .i64 a0_1, .slice A0_2 l0_2.length c0_2] 24)
  unfold bank_Write.f at h
  obtain ⟨t, ht, h⟩ := Option.bind_eq_some_iff.mp h
  have HV := Lib.hid (bank_Valid.calls k a0_0 a0_1 A0_2 c0_2 l0_2 t _ (Kd.C_below hr0_2 hb0) hc0_2 ht)
  have HB0 := Lib.hid hb0
  have HF0 := Lib.hid hf0
  cases t with
  | false =>
    simp only [Bool.false_eq_true, if_false, Option.some.injEq, Prod.mk.injEq] at h
    obtain ⟨rfl, rfl⟩ := h
    clear hr0_2 hc0_2 hG hb0 hf0 ht
    go_enter Tryd.func19, Tryd.ntmps19
    go_wp2_with fail
    refine HV.out.mono ?_
    rintro e W1 ⟨rfl, hb1⟩
    have HB1 := Lib.hid (below_then HB0.out HB0.out.size hb1)
    clear hb1 HV
    go_wp2_with fail
    go_ret2
    exact ⟨rfl, HB1.out⟩
  | true =>
    simp only [if_true] at h
    obtain ⟨s, hs, h⟩ := Option.bind_eq_some_iff.mp h
    split at h
    · rename_i hfit
      obtain ⟨x, hx, h⟩ := Option.bind_eq_some_iff.mp h
      simp only [Option.some.injEq, Prod.mk.injEq] at h
      obtain ⟨rfl, rfl⟩ := h
      unfold fitsF at hfit
      obtain ⟨h1, h2⟩ := Bool.and_eq_true_iff.mp hfit
      have hlen : (fileL a0_0 a0_1 l0_2 s).length ≤ 140737488355328 := by
        unfold closedL at hx
        split at hx
        · assumption
        · cases hx
      have HW : ∀ W1, Below (w.alloc (.cells #[.int .i64 a0_0, .int .i64 a0_1, .slice A0_2 l0_2.length c0_2] 24)).heap.size (w.alloc (.cells #[.int .i64 a0_0, .int .i64 a0_1, .slice A0_2 l0_2.length c0_2] 24)) W1 →
          Calls Tryd.prog 29 #[.func (.func 30) #[] #[.pointer (some ⟨w.heap.size, 0, none⟩)]] W1 fun e W' => e = .returned (.string x) ∧ Below w.heap.size w W' := by
        intro W1 hb1
        have hz : w.heap.size < (w.alloc (.cells #[.int .i64 a0_0, .int .i64 a0_1, .slice A0_2 l0_2.length c0_2] 24)).heap.size := (Array.getElem?_eq_some_iff.1 hf0).1
        have hf1 := (hb1.block _ hz).trans hf0
        refine written_W w hG W1 (below_then hb0 hb0.size hb1) w.heap.size _ k x hx (Nat.lt_of_lt_of_le hz hb1.size) _ 24 (by decide) hf1 ?_
        intro b W' hI hg hgb
        exact Write1_go w hG b w.heap.size [] a0_0 a0_1 A0_2 c0_2 l0_2 W' hI hg hgb hr0_2 hc0_2 k s hs (intOk_all h1) (fun o ho => intOk_all (List.all_eq_true.mp h2 o ho)) (by simpa using hlen)
      have HWr := Lib.hid HW
      clear hr0_2 hc0_2 hG hb0 hf0 ht HW hlen h1 h2 hfit hx hs
      go_enter Tryd.func19, Tryd.ntmps19
      go_wp2_with fail
      refine HV.out.mono ?_
      rintro e W1 ⟨rfl, hb1⟩
      have HB1 := Lib.hid hb1
      clear hb1 HV
      go_wp2_with fail
      refine (HWr.out _ HB1.out).mono ?_
      rintro e W2 ⟨rfl, hb2⟩
      have HB2 := Lib.hid hb2
      clear hb2
      go_wp2_with fail
      go_ret2
      exact ⟨rfl, HB2.out⟩
    · cases h

set_option maxHeartbeats 1000000 in
set_option maxRecDepth 100000 in
theorem bank_WriteAnswer.calls (k : Nat) (a0_0 : Int) (a0_1 : Int) (A0_2 : Option Addr) (c0_2 : Nat) (l0_2 : List (S48)) (r1 : ByteArray) (r2 : Int) (w : World) (hr0_2 : Kd.C k48 w A0_2 l0_2.length l0_2) (hc0_2 : l0_2.length ≤ c0_2) (hG : GG w) (h : bank_WriteAnswer.f k a0_0 a0_1 l0_2 = some (r1, r2)) :
    Calls Tryd.prog 20 #[.agg #[.int .i64 a0_0, .int .i64 a0_1, .slice A0_2 l0_2.length c0_2]] w fun e w' => e = .returned (.tuple #[.string r1, .int .i64 r2]) ∧ Below w.heap.size w w' := by
  have hb0 := below_alloc (Below.refl w.heap.size w) (.cells #[.int .i64 a0_0, .int .i64 a0_1, .slice A0_2 l0_2.length c0_2] 27)
  have hf0 := heap_alloc_new w (.cells #[.int .i64 a0_0, .int .i64 a0_1, .slice A0_2 l0_2.length c0_2] 27)
  unfold bank_WriteAnswer.f at h
  obtain ⟨t, ht, h⟩ := Option.bind_eq_some_iff.mp h
  have HV := Lib.hid (bank_Right.calls k a0_0 a0_1 A0_2 c0_2 l0_2 t _ (Kd.C_below hr0_2 hb0) hc0_2 ht)
  have HB0 := Lib.hid hb0
  have HF0 := Lib.hid hf0
  cases t with
  | false =>
    simp only [Bool.false_eq_true, if_false, Option.some.injEq, Prod.mk.injEq] at h
    obtain ⟨rfl, rfl⟩ := h
    clear hr0_2 hc0_2 hG hb0 hf0 ht
    go_enter Tryd.func20, Tryd.ntmps20
    go_wp2_with fail
    refine HV.out.mono ?_
    rintro e W1 ⟨rfl, hb1⟩
    have HB1 := Lib.hid (below_then HB0.out HB0.out.size hb1)
    clear hb1 HV
    go_wp2_with fail
    go_ret2
    exact ⟨rfl, HB1.out⟩
  | true =>
    simp only [if_true] at h
    split at h
    · rename_i hfit
      obtain ⟨x, hx, h⟩ := Option.bind_eq_some_iff.mp h
      simp only [Option.some.injEq, Prod.mk.injEq] at h
      obtain ⟨rfl, rfl⟩ := h
      unfold fitsA at hfit
      obtain ⟨h1, h2⟩ := Bool.and_eq_true_iff.mp hfit
      have hlen : (answerL a0_0 a0_1 l0_2).length ≤ 140737488355328 := by
        unfold closedL at hx
        split at hx
        · assumption
        · cases hx
      have HW : ∀ W1, Below (w.alloc (.cells #[.int .i64 a0_0, .int .i64 a0_1, .slice A0_2 l0_2.length c0_2] 27)).heap.size (w.alloc (.cells #[.int .i64 a0_0, .int .i64 a0_1, .slice A0_2 l0_2.length c0_2] 27)) W1 →
          Calls Tryd.prog 29 #[.func (.func 31) #[] #[.pointer (some ⟨w.heap.size, 0, none⟩)]] W1 fun e W' => e = .returned (.string x) ∧ Below w.heap.size w W' := by
        intro W1 hb1
        have hz : w.heap.size < (w.alloc (.cells #[.int .i64 a0_0, .int .i64 a0_1, .slice A0_2 l0_2.length c0_2] 27)).heap.size := (Array.getElem?_eq_some_iff.1 hf0).1
        have hf1 := (hb1.block _ hz).trans hf0
        refine written_A w hG W1 (below_then hb0 hb0.size hb1) w.heap.size _ k x hx (Nat.lt_of_lt_of_le hz hb1.size) _ 27 (by decide) hf1 ?_
        intro b W' hI hg hgb
        exact WriteAnswer1_go w hG b w.heap.size [] a0_0 a0_1 A0_2 c0_2 l0_2 W' hI hg hgb hr0_2 hc0_2 (intOk_all h1) (fun o ho => intOk_all (List.all_eq_true.mp h2 o ho)) (by simpa using hlen)
      have HWr := Lib.hid HW
      clear hr0_2 hc0_2 hG hb0 hf0 ht HW hlen h1 h2 hfit hx
      go_enter Tryd.func20, Tryd.ntmps20
      go_wp2_with fail
      refine HV.out.mono ?_
      rintro e W1 ⟨rfl, hb1⟩
      have HB1 := Lib.hid hb1
      clear hb1 HV
      go_wp2_with fail
      refine (HWr.out _ HB1.out).mono ?_
      rintro e W2 ⟨rfl, hb2⟩
      have HB2 := Lib.hid hb2
      clear hb2
      go_wp2_with fail
      go_ret2
      exact ⟨rfl, HB2.out⟩
    · cases h

end Go.Proofs.YtndojpcjhkncgaaDoor.Q
end
