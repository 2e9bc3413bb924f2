/- Part 2 of a proof: the texts HLines, QFbankend, HWrite, QFref36hex, QFref36End, QFref36decimal, QFref36line, QFref36Write, QFref36WriteAnswer, SText, SWrite, QE47, QFlaw36two, QFlaw36awake, SAwake, HLns, SWords, HNum, HScan, SNumb, HRng, HLn2, HForm, HClosed, HRd1, HRead, SChg, put together by a program of this repo. -/
import Derived.Deep.RegionHeld3
import Derived.Lib.ItoaLen
import Derived.RangeFuncNested
import Derived.RangeFuncBound
import Derived.RangeFuncCalls
import Derived.RangeFuncLeaves
import Derived.Shelf.Abstract
import Derived.Shelf.RegionOpen
import Derived.WalkKit
import Derived.OwnWalkIn
import Derived.TacticsInMore
import Derived.LoopNIn
import Derived.LoopIn
import Derived.Lib.IndexLaws
import Derived.Lib.Bytealg
import Derived.Test.YtndojpcjhkncgaaGreatDoorVMBack1
import Derived.Lib.SplitLaws
import Derived.Lib.CountLaws
import Derived.Lib.IndexBytes
import Derived.Lib.AtoiErrMem
import Derived.Lib.SmallJoins
import Derived.Lib.AtoiAllCases
import Derived.Shelf.Strings.SlTrimAscii
import Derived.Test.YtndojpcjhkncgaaGreatDoorMBack1

section
namespace Go.Proofs.YtndojpcjhkncgaaGreatDoor.Q
open Go Go.RowKit Go.Proofs.YtndojpcjhkncgaaGreatDoorW.PrintWords
set_option linter.unusedVariables false
set_option linter.unusedSimpArgs false
def orderL (o : S47) : List UInt8 := lineL [111, 114, 100, 101, 114] [o.f0, o.f1, o.f2, o.f3, o.f4]
def fileL (num day : Int) (os : List S47) (s : Int) : List UInt8 := lineL [80, 65, 89] [num, day, os.length, s] ++ os.flatMap orderL
theorem flat_take_le {α : Type} (f : α → List UInt8) (os : List α) (k : Nat) (hk : k < os.length) : ((os.take k).flatMap f).length + (f os[k]).length ≤ (os.flatMap f).length := by
  have h : os.flatMap f = (os.take (k + 1)).flatMap f ++ (os.drop (k + 1)).flatMap f := by rw [← List.flatMap_append, List.take_append_drop]
  rw [h, List.length_append, List.take_succ_eq_append_getElem hk, List.flatMap_append, List.length_append]
  simp
set_option maxHeartbeats 1000000 in
set_option maxRecDepth 100000 in
theorem Write1_go (w0 : World) (hG : GG w0) (b gf : Nat) (l : List UInt8) (num day : Int) (A : Option Addr) (c : Nat) (os : List S47) (W : World) (hI : Bd w0 b l W)
    (hf : W.heap[gf]? = some (.cells #[.int .i64 num, .int .i64 day, .slice A os.length c] 27 (0, 0))) (hgf : gf ≠ b) (hC : Kd.C k47 w0 A os.length os) (hc : os.length ≤ c) (k : Nat) (s : Int) (hs : bank_total.f k num day os = some s)
    (hn : ∀ n ∈ [num, day, (os.length : Int), s], -9223372036854775808 ≤ n ∧ n ≤ 9223372036854775807) (ho : ∀ o ∈ os, ∀ n ∈ [o.f0, o.f1, o.f2, o.f3, o.f4], -9223372036854775808 ≤ n ∧ n ≤ 9223372036854775807)
    (hlen : l.length + (fileL num day os s).length ≤ 140737488355328) :
    Calls Tryz.prog 45 #[.func (.func 59) #[] #[.pointer (some ⟨b, 0, none⟩)], .pointer (some ⟨gf, 0, none⟩)] W fun e W' => e = .returned (.tuple #[]) ∧ Bd w0 b (l ++ fileL num day os s) W' ∧ Ok b W W' := by
  have hll : (lineL [80, 65, 89] [num, day, os.length, s]).length ≤ (fileL num day os s).length := by unfold fileL; rw [List.length_append]; omega
  have HLine : ∀ (w' : World) (g : Nat), Bd w0 b l w' → w'.heap[g]? = some (.cells #[.int .i64 num, .int .i64 day, .int .i64 os.length, .int .i64 s] 3 (0, 0)) → g ≠ b →
      Calls Tryz.prog 59 #[.string ⟨#[80, 65, 89]⟩, .slice (some ⟨g, 0, none⟩) 4 4, .pointer (some ⟨b, 0, none⟩)] w' fun e W' => e = .returned (.tuple #[]) ∧ Bd w0 b (l ++ lineL [80, 65, 89] [num, day, os.length, s]) W' ∧ Ok b w' W' :=
    fun w' g h1 h2 h3 => line_go w0 hG b l ⟨#[80, 65, 89]⟩ [num, day, os.length, s] g w' h1 hn (by exact Nat.le_trans (Nat.add_le_add_left hll _) hlen) h2 h3 (by simp)
  have HTot : ∀ w', Bd w0 b l w' → Calls Tryz.prog 46 #[.agg #[.int .i64 num, .int .i64 day, .slice A os.length c]] w' fun e w2 => e = .returned (.int .i64 s) ∧ Below w'.heap.size w' w2 :=
    fun w' h => bank_total.calls k num day A c os s w' (Kd.C_below hC h.low) hc hs
  have HL := Lib.hid HLine
  have HG0 := Lib.hid hG
  have HT := Lib.hid HTot
  have HI := Lib.hid hI
  have HC := Lib.hid hC
  have HO := Lib.hid ho
  have HN := Lib.hid hlen
  have HF := Lib.hid hf
  have c0 : W.cell? ⟨gf, 0, none⟩ = some (.int .i64 num) := blk_cell hf 0
  have c1 : W.cell? ⟨gf, 1, none⟩ = some (.int .i64 day) := blk_cell hf 1
  have c2 : W.cell? ⟨gf, 2, none⟩ = some (.slice A os.length c) := blk_cell hf 2
  clear HLine HTot hI hC ho hlen hf hn hs hG hll
  have hk1 : Ok b W W.drew := Ok.of_below (below_drew (Below.refl _ _))
  have hS : ∀ w', Ok b W w' → (w'.cell? ⟨gf, 0, none⟩ = some (.int .i64 num) ∧ w'.cell? ⟨gf, 1, none⟩ = some (.int .i64 day) ∧ w'.cell? ⟨gf, 2, none⟩ = some (.slice A os.length c)) :=
    fun w' h => have h := h.at_ HF.out hgf (by decide); ⟨blk_cell h 0, blk_cell h 1, blk_cell h 2⟩
  have HS := Lib.hid hS
  have HK1 := Lib.hid hk1
  have HI1 := Lib.hid (HI.out.then_ (below_drew (Below.refl W.heap.size W)))
  have HG := Lib.hid hgf
  clear hS hk1 hgf HI
  go_enter Tryz.func45, Tryz.ntmps45
  go_wp2_with fail
  go_region_held3 (fun w' => (w'.cell? ⟨gf, 0, none⟩ = some (.int .i64 num) ∧ w'.cell? ⟨gf, 1, none⟩ = some (.int .i64 day) ∧ w'.cell? ⟨gf, 2, none⟩ = some (.slice A os.length c))) (first | exact HS.out _ HK1.out | exact HS.out _ HK2.out | exact HS.out _ HK3.out | exact HS.out _ HK4.out)
    (first | (go_at_call 46; refine (HT.out _ HI1.out).mono ?_; rintro e w2 ⟨rfl, hb2⟩; have HI2 := Lib.hid (HI1.out.then_ hb2); have HK2 := Lib.hid (HK1.out.then_ hb2); have HK3 := Lib.hid (HK2.out.then_ (below_alloc (Below.refl w2.heap.size w2) (.cells #[.int .i64 num, .int .i64 day, .int .i64 os.length, .int .i64 s] 3))); have HI3 := Lib.hid (HI2.out.then_ (below_alloc (Below.refl w2.heap.size w2) (.cells #[.int .i64 num, .int .i64 day, .int .i64 os.length, .int .i64 s] 3))); have HB2 := Lib.hid hb2; clear hb2) | (go_at_call 59; refine (HL.out _ w2.heap.size HI3.out (heap_alloc_new w2 _) (fun e => Nat.lt_irrefl _ (Nat.lt_of_lt_of_eq HI2.out.lt e))).mono ?_; rintro e w3 ⟨rfl, hI4, hk4⟩; have HI4 := Lib.hid hI4; have HK4 := Lib.hid (HK3.out.trans hk4); clear hI4 hk4))
  clear HI1 HI2 HI3 HK1 HK2 HK3 HB2 c0 c1 c2 HT HL
  obtain ⟨d0, d1, d2⟩ := HS.out _ HK4.out
  clear d0 d1
  go_wp2_with fail
  go_loopw [20] (fun i wr => ∃ k : Nat, k ≤ os.length ∧ i = .int .i64 k ∧ Hid (Bd w0 b (l ++ lineL [80, 65, 89] [num, day, os.length, s] ++ (os.take k).flatMap orderL) wr) ∧ Hid (Ok b W wr)) (fun i _ => os.length - (intOf i).toNat)
  case atStart => exact ⟨0, Nat.zero_le _, rfl, Lib.hid (by simpa using HI4.out), HK4⟩
  case round =>
    obtain ⟨k, hk, rfl, hI, hK⟩ := hrel
    clear d2 HI4 HK4
    have hm : os.length ≤ 9223372036854775807 := HC.out.2.1
    by_cases hlt : k < os.length
    · obtain ⟨ad, rfl, e0, e1, e2, e3, e4⟩ := at_T47 (Kd.C_below HC.out hI.out.low) (k : Int) (by omega) (by omega)
      obtain ⟨o, hor⟩ : ∃ o, o = rd_T47 os (k : Int) := ⟨_, rfl⟩
      rw [← hor] at e0 e1 e2 e3 e4
      simp only [Int.toNat_natCast] at e0 e1 e2 e3 e4
      have HOR := Lib.hid hor
      clear hor
      have hlo : l.length + (lineL [80, 65, 89] [num, day, os.length, s]).length + ((os.take k).flatMap orderL).length + (orderL o).length ≤ 140737488355328 := by
        have h := HN.out
        have h2 := flat_take_le orderL os k hlt
        rw [show os[k] = o by rw [HOR.out]; unfold rd_T47; simp [hlt]] at h2
        unfold fileL at h
        rw [List.length_append] at h
        omega
      have hon := HO.out o (by rw [HOR.out]; unfold rd_T47; simp [hlt])
      have HOL := Lib.hid hlo
      have HON := Lib.hid hon
      clear hlo hon
      go_wp2_with fail
      have HB1 := Lib.hid (below_alloc (below_alloc (Below.refl wr.heap.size wr) (.cells #[.int .i64 o.f0, .int .i64 o.f1, .int .i64 o.f2, .int .i64 o.f3, .int .i64 o.f4] 47)) (.cells #[.int .i64 o.f0, .int .i64 o.f1, .int .i64 o.f2, .int .i64 o.f3, .int .i64 o.f4] 3))
      have hnb : wr.heap.size + 1 ≠ b := by have := hI.out.lt; omega
      refine (line_go w0 HG0.out b _ ⟨#[111, 114, 100, 101, 114]⟩ [o.f0, o.f1, o.f2, o.f3, o.f4] (wr.heap.size + 1) _ (hI.out.then_ HB1.out) HON.out (by rw [List.length_append, List.length_append]; exact HOL.out) (by have := heap_alloc_new (wr.alloc (.cells #[.int .i64 o.f0, .int .i64 o.f1, .int .i64 o.f2, .int .i64 o.f3, .int .i64 o.f4] 47)) (.cells #[.int .i64 o.f0, .int .i64 o.f1, .int .i64 o.f2, .int .i64 o.f3, .int .i64 o.f4] 3); rw [World.size_alloc] at this; exact this) hnb (by simp)).mono ?_
      rintro e w5 ⟨rfl, hI5, hk5⟩
      have HI5 := Lib.hid hI5
      have HK5 := Lib.hid ((hK.out.then_ HB1.out).trans hk5)
      have HS2 := Lib.hid (show l ++ lineL [80, 65, 89] [num, day, os.length, s] ++ (os.take (k + 1)).flatMap orderL = l ++ lineL [80, 65, 89] [num, day, os.length, s] ++ (os.take k).flatMap orderL ++ orderL o by
        rw [List.take_succ_eq_append_getElem hlt, List.flatMap_append, show os[k] = o by rw [HOR.out]; unfold rd_T47; simp [hlt]]
        simp [List.append_assoc])
      clear hI5 hk5 HB1 hnb e0 e1 e2 e3 e4 HOL HON
      go_wp2_with fail
      go_roundw
      case rel => exact ⟨k + 1, by omega, by go_num, Lib.hid (by rw [HS2.out]; exact HI5.out), HK5⟩
      case measure => simp [intOf]; omega
    · obtain rfl : k = os.length := by omega
      have hI' := hI.out
      rw [List.take_length] at hI'
      have HI2 := Lib.hid hI'
      clear hI hI'
      go_wp2_with fail
      go_end0
      exact ⟨rfl, by have := HI2.out; unfold fileL; rw [← List.append_assoc]; exact this, hK.out⟩
def returnL (o : S49) : List UInt8 := lineL [114, 101, 116, 117, 114, 110] [o.f0, o.f1]
def answerL (num day : Int) (os : List S49) : List UInt8 := lineL [66, 65, 67, 75] [num, day, os.length] ++ os.flatMap returnL
set_option maxHeartbeats 1000000 in
set_option maxRecDepth 100000 in
theorem WriteAnswer1_go (w0 : World) (hG : GG w0) (b gf : Nat) (l : List UInt8) (num day : Int) (A : Option Addr) (c : Nat) (os : List S49) (W : World) (hI : Bd w0 b l W)
    (hf : W.heap[gf]? = some (.cells #[.int .i64 num, .int .i64 day, .slice A os.length c] 30 (0, 0))) (hgf : gf ≠ b) (hC : Kd.C k49 w0 A os.length os) (hc : os.length ≤ c)
    (hn : ∀ n ∈ [num, day, (os.length : Int)], -9223372036854775808 ≤ n ∧ n ≤ 9223372036854775807) (ho : ∀ o ∈ os, ∀ n ∈ [o.f0, o.f1], -9223372036854775808 ≤ n ∧ n ≤ 9223372036854775807)
    (hlen : l.length + (answerL num day os).length ≤ 140737488355328) :
    Calls Tryz.prog 54 #[.func (.func 59) #[] #[.pointer (some ⟨b, 0, none⟩)], .pointer (some ⟨gf, 0, none⟩)] W fun e W' => e = .returned (.tuple #[]) ∧ Bd w0 b (l ++ answerL num day os) W' ∧ Ok b W W' := by
  have hll : (lineL [66, 65, 67, 75] [num, day, os.length]).length ≤ (answerL num day os).length := by unfold answerL; rw [List.length_append]; omega
  have HLine : ∀ (w' : World) (g : Nat), Bd w0 b l w' → w'.heap[g]? = some (.cells #[.int .i64 num, .int .i64 day, .int .i64 os.length] 3 (0, 0)) → g ≠ b →
      Calls Tryz.prog 59 #[.string ⟨#[66, 65, 67, 75]⟩, .slice (some ⟨g, 0, none⟩) 3 3, .pointer (some ⟨b, 0, none⟩)] w' fun e W' => e = .returned (.tuple #[]) ∧ Bd w0 b (l ++ lineL [66, 65, 67, 75] [num, day, os.length]) W' ∧ Ok b w' W' :=
    fun w' g h1 h2 h3 => line_go w0 hG b l ⟨#[66, 65, 67, 75]⟩ [num, day, os.length] g w' h1 hn (by exact Nat.le_trans (Nat.add_le_add_left hll _) hlen) h2 h3 (by simp)
  have HL := Lib.hid HLine
  have HG0 := Lib.hid hG
  have HI := Lib.hid hI
  have HC := Lib.hid hC
  have HO := Lib.hid ho
  have HN := Lib.hid hlen
  have HF := Lib.hid hf
  have c0 : W.cell? ⟨gf, 0, none⟩ = some (.int .i64 num) := blk_cell hf 0
  have c1 : W.cell? ⟨gf, 1, none⟩ = some (.int .i64 day) := blk_cell hf 1
  have c2 : W.cell? ⟨gf, 2, none⟩ = some (.slice A os.length c) := blk_cell hf 2
  clear HLine hI hC ho hlen hf hn hG hll
  have hS : ∀ w', Ok b W w' → (w'.cell? ⟨gf, 0, none⟩ = some (.int .i64 num) ∧ w'.cell? ⟨gf, 1, none⟩ = some (.int .i64 day) ∧ w'.cell? ⟨gf, 2, none⟩ = some (.slice A os.length c)) :=
    fun w' h => have h := h.at_ HF.out hgf (by decide); ⟨blk_cell h 0, blk_cell h 1, blk_cell h 2⟩
  have HS := Lib.hid hS
  have HG := Lib.hid hgf
  have HK3 := Lib.hid (Ok.of_below (b := b) (below_alloc (Below.refl W.heap.size W) (.cells #[.int .i64 num, .int .i64 day, .int .i64 os.length] 3)))
  have HI3 := Lib.hid (HI.out.then_ (below_alloc (Below.refl W.heap.size W) (.cells #[.int .i64 num, .int .i64 day, .int .i64 os.length] 3)))
  clear hS hgf
  go_enter Tryz.func54, Tryz.ntmps54
  go_wp2_with fail
  refine (HL.out _ W.heap.size HI3.out (heap_alloc_new W _) (fun e => Nat.lt_irrefl _ (Nat.lt_of_lt_of_eq HI.out.lt e))).mono ?_
  rintro e w3 ⟨rfl, hI4, hk4⟩
  have HI4 := Lib.hid hI4
  have HK4 := Lib.hid (HK3.out.trans hk4)
  clear hI4 hk4 HI3 HK3 c0 c1 c2 HL
  obtain ⟨d0, d1, d2⟩ := HS.out _ HK4.out
  clear d0 d1
  go_wp2_with fail
  go_loopw [18] (fun i wr => ∃ k : Nat, k ≤ os.length ∧ i = .int .i64 k ∧ Hid (Bd w0 b (l ++ lineL [66, 65, 67, 75] [num, day, os.length] ++ (os.take k).flatMap returnL) wr) ∧ Hid (Ok b W wr)) (fun i _ => os.length - (intOf i).toNat)
  case atStart => exact ⟨0, Nat.zero_le _, rfl, Lib.hid (by simpa using HI4.out), HK4⟩
  case round =>
    obtain ⟨k, hk, rfl, hI, hK⟩ := hrel
    clear d2 HI4 HK4
    have hm : os.length ≤ 9223372036854775807 := HC.out.2.1
    by_cases hlt : k < os.length
    · obtain ⟨ad, rfl, e0, e1⟩ := at_T49 (Kd.C_below HC.out hI.out.low) (k : Int) (by omega) (by omega)
      obtain ⟨o, hor⟩ : ∃ o, o = rd_T49 os (k : Int) := ⟨_, rfl⟩
      rw [← hor] at e0 e1
      simp only [Int.toNat_natCast] at e0 e1
      have HOR := Lib.hid hor
      clear hor
      have hlo : l.length + (lineL [66, 65, 67, 75] [num, day, os.length]).length + ((os.take k).flatMap returnL).length + (returnL o).length ≤ 140737488355328 := by
        have h := HN.out
        have h2 := flat_take_le returnL os k hlt
        rw [show os[k] = o by rw [HOR.out]; unfold rd_T49; simp [hlt]] at h2
        unfold answerL at h
        rw [List.length_append] at h
        omega
      have hon := HO.out o (by rw [HOR.out]; unfold rd_T49; simp [hlt])
      have HOL := Lib.hid hlo
      have HON := Lib.hid hon
      clear hlo hon
      go_wp2_with fail
      have HB1 := Lib.hid (below_alloc (below_alloc (Below.refl wr.heap.size wr) (.cells #[.int .i64 o.f0, .int .i64 o.f1] 49)) (.cells #[.int .i64 o.f0, .int .i64 o.f1] 3))
      have hnb : wr.heap.size + 1 ≠ b := by have := hI.out.lt; omega
      refine (line_go w0 HG0.out b _ ⟨#[114, 101, 116, 117, 114, 110]⟩ [o.f0, o.f1] (wr.heap.size + 1) _ (hI.out.then_ HB1.out) HON.out (by rw [List.length_append, List.length_append]; exact HOL.out) (by have := heap_alloc_new (wr.alloc (.cells #[.int .i64 o.f0, .int .i64 o.f1] 49)) (.cells #[.int .i64 o.f0, .int .i64 o.f1] 3); rw [World.size_alloc] at this; exact this) hnb (by simp)).mono ?_
      rintro e w5 ⟨rfl, hI5, hk5⟩
      have HI5 := Lib.hid hI5
      have HK5 := Lib.hid ((hK.out.then_ HB1.out).trans hk5)
      have HS2 := Lib.hid (show l ++ lineL [66, 65, 67, 75] [num, day, os.length] ++ (os.take (k + 1)).flatMap returnL = l ++ lineL [66, 65, 67, 75] [num, day, os.length] ++ (os.take k).flatMap returnL ++ returnL o by
        rw [List.take_succ_eq_append_getElem hlt, List.flatMap_append, show os[k] = o by rw [HOR.out]; unfold rd_T49; simp [hlt]]
        simp [List.append_assoc])
      clear hI5 hk5 HB1 hnb e0 e1 HOL HON
      go_wp2_with fail
      go_roundw
      case rel => exact ⟨k + 1, by omega, by go_num, Lib.hid (by rw [HS2.out]; exact HI5.out), HK5⟩
      case measure => simp [intOf]; omega
    · obtain rfl : k = os.length := by omega
      have hI' := hI.out
      rw [List.take_length] at hI'
      have HI2 := Lib.hid hI'
      clear hI hI'
      go_wp2_with fail
      go_end0
      exact ⟨rfl, by have := HI2.out; unfold answerL; rw [← List.append_assoc]; exact this, hK.out⟩
end Go.Proofs.YtndojpcjhkncgaaGreatDoor.Q
end

section
namespace Go.Proofs.YtndojpcjhkncgaaGreatDoor.Q
open Go.RowKit Go.Proofs.YtndojpcjhkncgaaGreatDoorW.PrintWords Go.Proofs.YtndojpcjhkncgaaGreatDoorW.PrintLast Go.Proofs.YtndojpcjhkncgaaGreatDoorW.PrintMore
attribute [local go_sem] max2_int min2_int max_two min_two max_three min_three max_four min_four   -- for this text's walks alone
set_option linter.unusedVariables false
set_option linter.unusedSimpArgs false
def bank_end.l0 : Nat → ByteArray → Int → Int → Int → Int → Option (ByteArray)
 | 0, _, _, _, _, _ => none
 | k + 1, x0, x3, x4, x7, x8 => if x8 < x7 then (if 0 ≤ x8 then (if x8 < (x0.size : Int) then (bank_end.l0 k x0 ((x3 + ((bt x0 x8) % 4294967296)) % 4294967296) ((x4 + ((((wrap64 (x8 + 1)) % 4294967296) * ((bt x0 x8) % 4294967296)) % 4294967296)) % 4294967296) x7 (wrap64 (x8 + 1))) else (none)) else (none)) else ((bank_hex.f x3).bind fun t122 => (if 4 + t122.size ≤ 9223372036854775807 then (if 4 + t122.size + 1 ≤ 9223372036854775807 then ((bank_hex.f x4).bind fun t123 => (if 4 + t122.size + 1 + t123.size ≤ 9223372036854775807 then (if 4 + t122.size + 1 + t123.size + 1 ≤ 9223372036854775807 then (some (((((⟨#[69, 78, 68, 32]⟩ : ByteArray) ++ t122) ++ (⟨#[32]⟩ : ByteArray)) ++ t123) ++ (⟨#[10]⟩ : ByteArray))) else (none)) else (none))) else (none)) else (none)))
def bank_end.f (k : Nat) (a0 : ByteArray) : Option (ByteArray) := bank_end.l0 k a0 0 0 (a0.size : Int) 0
theorem bank_end.mono_l : ∀ k, (∀ y0 y1 y2 y3 y4, LeO (bank_end.l0 k y0 y1 y2 y3 y4) (bank_end.l0 (k + 1) y0 y1 y2 y3 y4))
 | 0 => fun _ _ _ _ _ r h => by simp [bank_end.l0] at h
 | k + 1 => by
  have ih0 := bank_end.mono_l k
  ·
   intro y0 y1 y2 y3 y4
   unfold bank_end.l0
   repeat' first
   | (with_reducible exact ih0 _ _ _ _ _)
   | (with_reducible exact LeO.refl _)
   | (with_reducible exact LeO.none _)
   | (with_reducible refine LeO.ite ?_ ?_)
   | (with_reducible refine LeO.bind ?_ (fun _ => ?_))
   | exact ih0 _ _ _ _ _
   | exact LeO.none _
   | refine LeO.ite ?_ ?_
   | refine LeO.bind ?_ (fun _ => ?_)
theorem bank_end.mono : ∀ a0 k, LeO (bank_end.f k a0) (bank_end.f (k + 1) a0) := by
 intro a0 k
 have ih0 := bank_end.mono_l k
 unfold bank_end.f
 repeat' first
   | (with_reducible exact ih0 _ _ _ _ _)
   | (with_reducible exact LeO.refl _)
   | (with_reducible exact LeO.none _)
   | (with_reducible refine LeO.ite ?_ ?_)
   | (with_reducible refine LeO.bind ?_ (fun _ => ?_))
   | exact ih0 _ _ _ _ _
   | exact LeO.none _
   | refine LeO.ite ?_ ?_
   | refine LeO.bind ?_ (fun _ => ?_)
set_option maxHeartbeats 8000000 in
set_option maxRecDepth 100000 in
theorem bank_end.calls (k : Nat) (a0 : ByteArray) (r : ByteArray) (w : World) (hG : GG w) (h : bank_end.f k a0 = some r) :
  Calls Tryz.prog 64 #[.string a0] w fun e w' => e = .returned (.string r) ∧ Below w.heap.size w w' := by
 have HG := Aside0.mk hG; clear hG; have HB := Aside0.mk (Below.refl w.heap.size w); have H : (bank_end.l0 k a0 0 0 (a0.size : Int) 0) = some r := h; clear h; have H' := Aside0.mk H; clear H
 go_enter Tryz.func64, Tryz.ntmps64
 go_wp2
 go_loopg [3, 4, 8] k (fun kq v3 v4 v8 w' => ∃ (x3_1 : Int) (x4_1 : Int) (x8_1 : Int), v3 = .int .u32 x3_1 ∧ v4 = .int .u32 x4_1 ∧ v8 = .int .i64 x8_1 ∧ Aside0 (bank_end.l0 kq a0 x3_1 x4_1 (a0.size : Int) x8_1 = some r) ∧ Aside0 (kq ≤ k) ∧ Aside0 (Below w.heap.size w w'))
 case atStart => exact ⟨(0), (0), (0), (by first | rfl | (simp; done) | (simp [*]; done)), (by first | rfl | (simp; done) | (simp [*]; done)), (by first | rfl | (simp; done) | (simp [*]; done)), H', ⟨Nat.le_refl _⟩, ⟨zB⟩⟩
 case round =>
  clear H'; obtain ⟨x3_1, x4_1, x8_1, rfl, rfl, rfl, HA, HK1, HB⟩ := hrel
  cases gk with
  | zero => exact absurd HA.out (by simp [bank_end.l0])
  | succ k1 =>
   have H := HA.out; clear HA
   simp only [bank_end.l0] at H
   by_cases c2 : x8_1 < (a0.size : Int)
   ·
    rw [if_pos c2] at H
    have c2b0 : decide (x8_1 < (a0.size : Int)) = true := decide_eq_true c2; clear c2
    by_cases c3 : 0 ≤ x8_1
    ·
     rw [if_pos c3] at H
     have c3b0 : decide (0 ≤ x8_1) = true := decide_eq_true c3; clear c3
     by_cases c4 : x8_1 < (a0.size : Int)
     ·
      rw [if_pos c4] at H
      have c4b0 : decide (x8_1 < (a0.size : Int)) = true := decide_eq_true c4; clear c4; have H' := Aside0.mk H; clear H; have p5 : 0 ≤ (x8_1 : Int) := zD; have q5 : x8_1 < (a0.size : Int) := zD; have hx5 := bt_at a0 x8_1; replace p5 := eq_true p5; replace q5 := eq_true q5; have p6 : 0 ≤ (x8_1 : Int) := zD; have q6 : x8_1 < (a0.size : Int) := zD; have hx6 := bt_at a0 x8_1; replace p6 := eq_true p6; replace q6 := eq_true q6
      go_wp2
      go_roundg k1
      case measure => have := HK1.out; omega
      case rel => exact ⟨((x3_1 + ((bt a0 x8_1) % 4294967296)) % 4294967296), ((x4_1 + ((((wrap64 (x8_1 + 1)) % 4294967296) * ((bt a0 x8_1) % 4294967296)) % 4294967296)) % 4294967296), (wrap64 (x8_1 + 1)), (by first | rfl | (simp; done) | (simp [*]; done)), (by first | rfl | (simp; done) | (simp [*]; done)), (by first | rfl | (simp; done) | (simp [*]; done)), H', ⟨by have := HK1.out; omega⟩, ⟨zB⟩⟩
     ·
      rw [if_neg c4] at H
      exact absurd H (by simp)
    ·
     rw [if_neg c3] at H
     exact absurd H (by simp)
   ·
    rw [if_neg c2] at H
    have c2b0 : decide (x8_1 < (a0.size : Int)) = false := decide_eq_false c2; clear c2; replace H := Option.bind_eq_some_iff.mp H; obtain ⟨t122, A70, H⟩ := H; replace H : (if 4 + t122.size ≤ 9223372036854775807 then (if 4 + t122.size + 1 ≤ 9223372036854775807 then ((bank_hex.f x4_1).bind fun t123 => (if 4 + t122.size + 1 + t123.size ≤ 9223372036854775807 then (if 4 + t122.size + 1 + t123.size + 1 ≤ 9223372036854775807 then (some (((((⟨#[69, 78, 68, 32]⟩ : ByteArray) ++ t122) ++ (⟨#[32]⟩ : ByteArray)) ++ t123) ++ (⟨#[10]⟩ : ByteArray))) else (none)) else (none))) else (none)) else (none)) = some r := H; have A7 := Aside0.mk A70; clear A70
    by_cases c8 : 4 + t122.size ≤ 9223372036854775807
    ·
     rw [if_pos c8] at H
     have c8b0 := eq_true c8; have c8b1 : decide (4 + t122.size ≤ 9223372036854775807) = true := decide_eq_true c8
     try have c8b2 : (9223372036854775807 < 4 + t122.size) = False := eq_false (Nat.not_lt.2 c8)
     by_cases c9 : 4 + t122.size + 1 ≤ 9223372036854775807
     ·
      rw [if_pos c9] at H
      have c9b0 := eq_true c9; have c9b1 : decide (4 + t122.size + 1 ≤ 9223372036854775807) = true := decide_eq_true c9
      try have c9b2 : (9223372036854775807 < 4 + t122.size + 1) = False := eq_false (Nat.not_lt.2 c9)
      replace H := Option.bind_eq_some_iff.mp H; obtain ⟨t123, A100, H⟩ := H; replace H : (if 4 + t122.size + 1 + t123.size ≤ 9223372036854775807 then (if 4 + t122.size + 1 + t123.size + 1 ≤ 9223372036854775807 then (some (((((⟨#[69, 78, 68, 32]⟩ : ByteArray) ++ t122) ++ (⟨#[32]⟩ : ByteArray)) ++ t123) ++ (⟨#[10]⟩ : ByteArray))) else (none)) else (none)) = some r := H; have A10 := Aside0.mk A100; clear A100
      by_cases c11 : 4 + t122.size + 1 + t123.size ≤ 9223372036854775807
      ·
       rw [if_pos c11] at H
       have c11b0 := eq_true c11; have c11b1 : decide (4 + t122.size + 1 + t123.size ≤ 9223372036854775807) = true := decide_eq_true c11
       try have c11b2 : (9223372036854775807 < 4 + t122.size + 1 + t123.size) = False := eq_false (Nat.not_lt.2 c11)
       by_cases c12 : 4 + t122.size + 1 + t123.size + 1 ≤ 9223372036854775807
       ·
        rw [if_pos c12] at H
        have c12b0 := eq_true c12; have c12b1 : decide (4 + t122.size + 1 + t123.size + 1 ≤ 9223372036854775807) = true := decide_eq_true c12
        try have c12b2 : (9223372036854775807 < 4 + t122.size + 1 + t123.size + 1) = False := eq_false (Nat.not_lt.2 c12)
        obtain rfl := Option.some.inj H
        go_wp2_with (first | ((with_reducible refine gate_callee (f := 74) rfl ?_); refine goesL_ (some 29) rfl rfl Tryz.func74 (by kernel_rfl) rfl #[.int .u32 x3_1] rfl (by (try simp only [List.map_toArray, List.map_cons, List.map_nil]); try rfl) ?_; (with_reducible refine (bank_hex.calls x3_1 t122 _ ?side1 A7.out).mono ?_); (case side1 => exact GG.below HG.out zB); rintro e w13 ⟨rfl, hb⟩; refine ⟨_, rfl, ?_⟩; replace HB := zBs hb; (try clear hb); (try clear hb2); (try clear hk); (try clear hi)) | ((with_reducible refine gate_callee (f := 74) rfl ?_); refine goesL_ (some 33) rfl rfl Tryz.func74 (by kernel_rfl) rfl #[.int .u32 x4_1] rfl (by (try simp only [List.map_toArray, List.map_cons, List.map_nil]); try rfl) ?_; (with_reducible refine (bank_hex.calls x4_1 t123 _ ?side1 A10.out).mono ?_); (case side1 => exact GG.below HG.out zB); rintro e w14 ⟨rfl, hb⟩; refine ⟨_, rfl, ?_⟩; replace HB := zBs hb; (try clear hb); (try clear hb2); (try clear hk); (try clear hi)))
        go_ret
        exact ⟨zE, zB⟩
       ·
        rw [if_neg c12] at H
        exact absurd H (by simp)
      ·
       rw [if_neg c11] at H
       exact absurd H (by simp)
     ·
      rw [if_neg c9] at H
      exact absurd H (by simp)
    ·
     rw [if_neg c8] at H
     exact absurd H (by simp)
end Go.Proofs.YtndojpcjhkncgaaGreatDoor.Q
end

section
namespace Go.Proofs.YtndojpcjhkncgaaGreatDoor.Q
open Go Go.RowKit Go.Proofs.YtndojpcjhkncgaaGreatDoorW.PrintWords Go.Proofs.YtndojpcjhkncgaaGreatDoorW.PrintLast Go.Proofs.YtndojpcjhkncgaaGreatDoorW.PrintMore
set_option linter.unusedVariables false
set_option linter.unusedSimpArgs false
theorem String_b (w0 : World) (b : Nat) (l : List UInt8) (W : World) (h : Bd w0 b l W) :
    Calls Tryz.prog 63 #[.pointer (some ⟨b, 0, none⟩)] W fun e W' => e = .returned (.string ⟨l.toArray⟩) ∧ Bd w0 b l W' ∧ Ok b W W' := by
  refine (Tryz.Builder_String_any_k w0.heap.size b l W h.is h.low.size).mono ?_
  rintro e W' ⟨rfl, h1, h2, h3⟩
  exact ⟨rfl, ⟨h1, h.low.trans h2⟩, ⟨h3⟩⟩
theorem Bd.new (w0 W : World) (h : Below w0.heap.size w0 W) : Bd w0 W.heap.size [] (W.alloc (.cells #[.pointer none, .slice none 0 0] 100)) := by
  refine ⟨.inl ⟨h.size, _, heap_alloc_new W _, ?_, by simp [Value.ownBlock]⟩, below_alloc h _⟩
  exact World.ownsRowF_nil _ _ _ _
def closedL (k : Nat) (l : List UInt8) : Option ByteArray :=
  if l.length ≤ 140737488355328 then (bank_end.f k ⟨l.toArray⟩).bind fun e => if l.length + e.size ≤ 9223372036854775807 then some ((⟨l.toArray⟩ : ByteArray) ++ e) else none else none
set_option maxHeartbeats 1000000 in
set_option maxRecDepth 100000 in
theorem written_W (w0 : World) (hG : GG w0) (W : World) (hB : Below w0.heap.size w0 W) (gf : Nat) (l : List UInt8) (k : Nat) (r : ByteArray) (hr : closedL k l = some r) (hgf : gf < W.heap.size) (cs : Array Value) (t : TypeId) (ht : t ≠ 5) (hf : W.heap[gf]? = some (.cells cs t (0, 0)))
    (hL : ∀ b W', Bd w0 b [] W' → W'.heap[gf]? = some (.cells cs t (0, 0)) → gf ≠ b → Calls Tryz.prog 45 #[.func (.func 59) #[] #[.pointer (some ⟨b, 0, none⟩)], .pointer (some ⟨gf, 0, none⟩)] W' fun e W2 => e = .returned (.tuple #[]) ∧ Bd w0 b l W2 ∧ Ok b W' W2) :
    Calls Tryz.prog 44 #[.func (.func 45) #[] #[.pointer (some ⟨gf, 0, none⟩)]] W fun e W' => e = .returned (.string r) ∧ Below w0.heap.size w0 W' := by
  obtain ⟨hll, e, he, hle, hre⟩ : l.length ≤ 140737488355328 ∧ ∃ e, bank_end.f k ⟨l.toArray⟩ = some e ∧ l.length + e.size ≤ 9223372036854775807 ∧ (⟨l.toArray⟩ : ByteArray) ++ e = r := by
    unfold closedL at hr
    split at hr
    · rename_i h1
      obtain ⟨e, he, hr⟩ := Option.bind_eq_some_iff.mp hr
      split at hr
      · rename_i h2
        exact ⟨h1, e, he, h2, Option.some.inj hr⟩
      · cases hr
    · cases hr
  have HN := Lib.hid (hL W.heap.size _ (Bd.new w0 W hB) ((below_alloc (Below.refl W.heap.size W) _).block gf hgf |>.trans hf) (by omega))
  obtain ⟨s, hs⟩ : ∃ s : ByteArray, s = ⟨l.toArray⟩ := ⟨_, rfl⟩
  have hsz : s.size + e.size ≤ 9223372036854775807 := by rw [hs]; show l.toArray.size + _ ≤ _; rw [List.size_toArray]; exact hle
  have HStr : ∀ W', Bd w0 W.heap.size l W' → Calls Tryz.prog 63 #[.pointer (some ⟨W.heap.size, 0, none⟩)] W' fun e W2 => e = .returned (.string s) ∧ Bd w0 W.heap.size l W2 ∧ Ok W.heap.size W' W2 := by rw [hs]; exact fun W' h => String_b w0 _ l W' h
  have HEnd : ∀ W', Below w0.heap.size w0 W' → Calls Tryz.prog 64 #[.string s] W' fun e' W2 => e' = .returned (.string e) ∧ Below W'.heap.size W' W2 := fun W' h => by rw [hs]; exact bank_end.calls k _ e W' (hG.below h) he
  have HS := Lib.hid HStr
  have HE := Lib.hid HEnd
  have HR := Lib.hid (show s ++ e = r by rw [hs]; exact hre)
  clear hL hr hG hB hll he hle hre hs HStr HEnd hf hgf ht
  go_enter Tryz.func44, Tryz.ntmps44
  go_wp2_with fail
  refine HN.out.mono ?_
  rintro e1 W1 ⟨rfl, hI1, hk1⟩
  have HI1 := Lib.hid hI1
  clear hI1 hk1 HN
  go_wp2_with fail
  refine (HS.out _ HI1.out).mono ?_
  rintro e1 W2 ⟨rfl, hI2, hk2⟩
  have HI2 := Lib.hid hI2
  clear hI2 hk2
  go_wp2_with fail
  refine (HS.out _ HI2.out).mono ?_
  rintro e1 W3 ⟨rfl, hI3, hk3⟩
  have HI3 := Lib.hid hI3
  clear hI3 hk3
  go_wp2_with fail
  refine (HE.out _ HI3.out.low).mono ?_
  rintro e1 W4 ⟨rfl, hb4⟩
  have HB4 := Lib.hid (below_then HI3.out.low HI3.out.low.size hb4)
  clear hb4
  go_wp2_with fail
  go_ret
  exact ⟨by rw [← HR.out]; rfl, HB4.out⟩
set_option maxHeartbeats 1000000 in
set_option maxRecDepth 100000 in
theorem written_A (w0 : World) (hG : GG w0) (W : World) (hB : Below w0.heap.size w0 W) (gf : Nat) (l : List UInt8) (k : Nat) (r : ByteArray) (hr : closedL k l = some r) (hgf : gf < W.heap.size) (cs : Array Value) (t : TypeId) (ht : t ≠ 5) (hf : W.heap[gf]? = some (.cells cs t (0, 0)))
    (hL : ∀ b W', Bd w0 b [] W' → W'.heap[gf]? = some (.cells cs t (0, 0)) → gf ≠ b → Calls Tryz.prog 54 #[.func (.func 59) #[] #[.pointer (some ⟨b, 0, none⟩)], .pointer (some ⟨gf, 0, none⟩)] W' fun e W2 => e = .returned (.tuple #[]) ∧ Bd w0 b l W2 ∧ Ok b W' W2) :
    Calls Tryz.prog 44 #[.func (.func 54) #[] #[.pointer (some ⟨gf, 0, none⟩)]] W fun e W' => e = .returned (.string r) ∧ Below w0.heap.size w0 W' := by
  obtain ⟨hll, e, he, hle, hre⟩ : l.length ≤ 140737488355328 ∧ ∃ e, bank_end.f k ⟨l.toArray⟩ = some e ∧ l.length + e.size ≤ 9223372036854775807 ∧ (⟨l.toArray⟩ : ByteArray) ++ e = r := by
    unfold closedL at hr
    split at hr
    · rename_i h1
      obtain ⟨e, he, hr⟩ := Option.bind_eq_some_iff.mp hr
      split at hr
      · rename_i h2
        exact ⟨h1, e, he, h2, Option.some.inj hr⟩
      · cases hr
    · cases hr
  have HN := Lib.hid (hL W.heap.size _ (Bd.new w0 W hB) ((below_alloc (Below.refl W.heap.size W) _).block gf hgf |>.trans hf) (by omega))
  obtain ⟨s, hs⟩ : ∃ s : ByteArray, s = ⟨l.toArray⟩ := ⟨_, rfl⟩
  have hsz : s.size + e.size ≤ 9223372036854775807 := by rw [hs]; show l.toArray.size + _ ≤ _; rw [List.size_toArray]; exact hle
  have HStr : ∀ W', Bd w0 W.heap.size l W' → Calls Tryz.prog 63 #[.pointer (some ⟨W.heap.size, 0, none⟩)] W' fun e W2 => e = .returned (.string s) ∧ Bd w0 W.heap.size l W2 ∧ Ok W.heap.size W' W2 := by rw [hs]; exact fun W' h => String_b w0 _ l W' h
  have HEnd : ∀ W', Below w0.heap.size w0 W' → Calls Tryz.prog 64 #[.string s] W' fun e' W2 => e' = .returned (.string e) ∧ Below W'.heap.size W' W2 := fun W' h => by rw [hs]; exact bank_end.calls k _ e W' (hG.below h) he
  have HS := Lib.hid HStr
  have HE := Lib.hid HEnd
  have HR := Lib.hid (show s ++ e = r by rw [hs]; exact hre)
  clear hL hr hG hB hll he hle hre hs HStr HEnd hf hgf ht
  go_enter Tryz.func44, Tryz.ntmps44
  go_wp2_with fail
  refine HN.out.mono ?_
  rintro e1 W1 ⟨rfl, hI1, hk1⟩
  have HI1 := Lib.hid hI1
  clear hI1 hk1 HN
  go_wp2_with fail
  refine (HS.out _ HI1.out).mono ?_
  rintro e1 W2 ⟨rfl, hI2, hk2⟩
  have HI2 := Lib.hid hI2
  clear hI2 hk2
  go_wp2_with fail
  refine (HS.out _ HI2.out).mono ?_
  rintro e1 W3 ⟨rfl, hI3, hk3⟩
  have HI3 := Lib.hid hI3
  clear hI3 hk3
  go_wp2_with fail
  refine (HE.out _ HI3.out.low).mono ?_
  rintro e1 W4 ⟨rfl, hb4⟩
  have HB4 := Lib.hid (below_then HI3.out.low HI3.out.low.size hb4)
  clear hb4
  go_wp2_with fail
  go_ret
  exact ⟨by rw [← HR.out]; rfl, HB4.out⟩
def intOk (n : Int) : Bool := decide (-9223372036854775808 ≤ n) && decide (n ≤ 9223372036854775807)
theorem intOk_all {l : List Int} (h : l.all intOk = true) : ∀ n ∈ l, -9223372036854775808 ≤ n ∧ n ≤ 9223372036854775807 := by
  intro n hn
  have := List.all_eq_true.mp h n hn
  simpa [intOk] using this
def fitsF (a0 a1 : Int) (l : List S47) (s : Int) : Bool := [a0, a1, (l.length : Int), s].all intOk && l.all fun o => [o.f0, o.f1, o.f2, o.f3, o.f4].all intOk
def fitsA (a0 a1 : Int) (l : List S49) : Bool := [a0, a1, (l.length : Int)].all intOk && l.all fun o => [o.f0, o.f1].all intOk
def bank_Write.f (k : Nat) (a0 a1 : Int) (l : List S47) : Option (ByteArray × Int) := (bank_Valid.f k a0 a1 l).bind fun t => if t = true then ((bank_total.f k a0 a1 l).bind fun s => if fitsF a0 a1 l s = true then ((closedL k (fileL a0 a1 l s)).bind fun x => some (x, 0)) else none) else some (⟨#[]⟩, 2)
def bank_WriteAnswer.f (k : Nat) (a0 a1 : Int) (l : List S49) : Option (ByteArray × Int) := (bank_Right.f k a0 a1 l).bind fun t => if t = true then (if fitsA a0 a1 l = true then ((closedL k (answerL a0 a1 l)).bind fun x => some (x, 0)) else none) else some (⟨#[]⟩, 2)
theorem closedL.mono (k : Nat) (l : List UInt8) : LeO (closedL k l) (closedL (k + 1) l) := by
  unfold closedL
  exact LeO.ite (LeO.bind (bank_end.mono _ _) fun _ => LeO.refl _) (LeO.none _)
set_option maxHeartbeats 1000000 in
set_option maxRecDepth 100000 in
theorem bank_Write.calls (k : Nat) (a0_0 : Int) (a0_1 : Int) (A0_2 : Option Addr) (c0_2 : Nat) (l0_2 : List (S47)) (r1 : ByteArray) (r2 : Int) (w : World) (hr0_2 : Kd.C k47 w A0_2 l0_2.length l0_2) (hc0_2 : l0_2.length ≤ c0_2) (hG : GG w) (h : bank_Write.f k a0_0 a0_1 l0_2 = some (r1, r2)) :
    Calls Tryz.prog 23 #[.agg #[.int .i64 a0_0, .int .i64 a0_1, .slice A0_2 l0_2.length c0_2]] w fun e w' => e = .returned (.tuple #[.string r1, .int .i64 r2]) ∧ Below w.heap.size w w' := by
  have hb0 := below_alloc (Below.refl w.heap.size w) (.cells #[.int .i64 a0_0, .int .i64 a0_1, .slice A0_2 l0_2.length c0_2] 27)
  have hf0 := heap_alloc_new w (.cells #[.int .i64 a0_0, .int .i64 a0_1, .slice A0_2 l0_2.length c0_2] 27)
  unfold bank_Write.f at h
  obtain ⟨t, ht, h⟩ := Option.bind_eq_some_iff.mp h
  have HV := Lib.hid (bank_Valid.calls k a0_0 a0_1 A0_2 c0_2 l0_2 t _ (Kd.C_below hr0_2 hb0) hc0_2 ht)
  have HB0 := Lib.hid hb0
  have HF0 := Lib.hid hf0
  cases t with
  | false =>
    simp only [Bool.false_eq_true, if_false, Option.some.injEq, Prod.mk.injEq] at h
    obtain ⟨rfl, rfl⟩ := h
    clear hr0_2 hc0_2 hG hb0 hf0 ht
    go_enter Tryz.func23, Tryz.ntmps23
    go_wp2_with fail
    refine HV.out.mono ?_
    rintro e W1 ⟨rfl, hb1⟩
    have HB1 := Lib.hid (below_then HB0.out HB0.out.size hb1)
    clear hb1 HV
    go_wp2_with fail
    go_ret2
    exact ⟨rfl, HB1.out⟩
  | true =>
    simp only [if_true] at h
    obtain ⟨s, hs, h⟩ := Option.bind_eq_some_iff.mp h
    split at h
    · rename_i hfit
      obtain ⟨x, hx, h⟩ := Option.bind_eq_some_iff.mp h
      simp only [Option.some.injEq, Prod.mk.injEq] at h
      obtain ⟨rfl, rfl⟩ := h
      unfold fitsF at hfit
      obtain ⟨h1, h2⟩ := Bool.and_eq_true_iff.mp hfit
      have hlen : (fileL a0_0 a0_1 l0_2 s).length ≤ 140737488355328 := by
        unfold closedL at hx
        split at hx
        · assumption
        · cases hx
      have HW : ∀ W1, Below (w.alloc (.cells #[.int .i64 a0_0, .int .i64 a0_1, .slice A0_2 l0_2.length c0_2] 27)).heap.size (w.alloc (.cells #[.int .i64 a0_0, .int .i64 a0_1, .slice A0_2 l0_2.length c0_2] 27)) W1 →
          Calls Tryz.prog 44 #[.func (.func 45) #[] #[.pointer (some ⟨w.heap.size, 0, none⟩)]] W1 fun e W' => e = .returned (.string x) ∧ Below w.heap.size w W' := by
        intro W1 hb1
        have hz : w.heap.size < (w.alloc (.cells #[.int .i64 a0_0, .int .i64 a0_1, .slice A0_2 l0_2.length c0_2] 27)).heap.size := (Array.getElem?_eq_some_iff.1 hf0).1
        have hf1 := (hb1.block _ hz).trans hf0
        refine written_W w hG W1 (below_then hb0 hb0.size hb1) w.heap.size _ k x hx (Nat.lt_of_lt_of_le hz hb1.size) _ 27 (by decide) hf1 ?_
        intro b W' hI hg hgb
        exact Write1_go w hG b w.heap.size [] a0_0 a0_1 A0_2 c0_2 l0_2 W' hI hg hgb hr0_2 hc0_2 k s hs (intOk_all h1) (fun o ho => intOk_all (List.all_eq_true.mp h2 o ho)) (by simpa using hlen)
      have HWr := Lib.hid HW
      clear hr0_2 hc0_2 hG hb0 hf0 ht HW hlen h1 h2 hfit hx hs
      go_enter Tryz.func23, Tryz.ntmps23
      go_wp2_with fail
      refine HV.out.mono ?_
      rintro e W1 ⟨rfl, hb1⟩
      have HB1 := Lib.hid hb1
      clear hb1 HV
      go_wp2_with fail
      refine (HWr.out _ HB1.out).mono ?_
      rintro e W2 ⟨rfl, hb2⟩
      have HB2 := Lib.hid hb2
      clear hb2
      go_wp2_with fail
      go_ret2
      exact ⟨rfl, HB2.out⟩
    · cases h
set_option maxHeartbeats 1000000 in
set_option maxRecDepth 100000 in
theorem bank_WriteAnswer.calls (k : Nat) (a0_0 : Int) (a0_1 : Int) (A0_2 : Option Addr) (c0_2 : Nat) (l0_2 : List (S49)) (r1 : ByteArray) (r2 : Int) (w : World) (hr0_2 : Kd.C k49 w A0_2 l0_2.length l0_2) (hc0_2 : l0_2.length ≤ c0_2) (hG : GG w) (h : bank_WriteAnswer.f k a0_0 a0_1 l0_2 = some (r1, r2)) :
    Calls Tryz.prog 29 #[.agg #[.int .i64 a0_0, .int .i64 a0_1, .slice A0_2 l0_2.length c0_2]] w fun e w' => e = .returned (.tuple #[.string r1, .int .i64 r2]) ∧ Below w.heap.size w w' := by
  have hb0 := below_alloc (Below.refl w.heap.size w) (.cells #[.int .i64 a0_0, .int .i64 a0_1, .slice A0_2 l0_2.length c0_2] 30)
  have hf0 := heap_alloc_new w (.cells #[.int .i64 a0_0, .int .i64 a0_1, .slice A0_2 l0_2.length c0_2] 30)
  unfold bank_WriteAnswer.f at h
  obtain ⟨t, ht, h⟩ := Option.bind_eq_some_iff.mp h
  have HV := Lib.hid (bank_Right.calls k a0_0 a0_1 A0_2 c0_2 l0_2 t _ (Kd.C_below hr0_2 hb0) hc0_2 ht)
  have HB0 := Lib.hid hb0
  have HF0 := Lib.hid hf0
  cases t with
  | false =>
    simp only [Bool.false_eq_true, if_false, Option.some.injEq, Prod.mk.injEq] at h
    obtain ⟨rfl, rfl⟩ := h
    clear hr0_2 hc0_2 hG hb0 hf0 ht
    go_enter Tryz.func29, Tryz.ntmps29
    go_wp2_with fail
    refine HV.out.mono ?_
    rintro e W1 ⟨rfl, hb1⟩
    have HB1 := Lib.hid (below_then HB0.out HB0.out.size hb1)
    clear hb1 HV
    go_wp2_with fail
    go_ret2
    exact ⟨rfl, HB1.out⟩
  | true =>
    simp only [if_true] at h
    split at h
    · rename_i hfit
      obtain ⟨x, hx, h⟩ := Option.bind_eq_some_iff.mp h
      simp only [Option.some.injEq, Prod.mk.injEq] at h
      obtain ⟨rfl, rfl⟩ := h
      unfold fitsA at hfit
      obtain ⟨h1, h2⟩ := Bool.and_eq_true_iff.mp hfit
      have hlen : (answerL a0_0 a0_1 l0_2).length ≤ 140737488355328 := by
        unfold closedL at hx
        split at hx
        · assumption
        · cases hx
      have HW : ∀ W1, Below (w.alloc (.cells #[.int .i64 a0_0, .int .i64 a0_1, .slice A0_2 l0_2.length c0_2] 30)).heap.size (w.alloc (.cells #[.int .i64 a0_0, .int .i64 a0_1, .slice A0_2 l0_2.length c0_2] 30)) W1 →
          Calls Tryz.prog 44 #[.func (.func 54) #[] #[.pointer (some ⟨w.heap.size, 0, none⟩)]] W1 fun e W' => e = .returned (.string x) ∧ Below w.heap.size w W' := by
        intro W1 hb1
        have hz : w.heap.size < (w.alloc (.cells #[.int .i64 a0_0, .int .i64 a0_1, .slice A0_2 l0_2.length c0_2] 30)).heap.size := (Array.getElem?_eq_some_iff.1 hf0).1
        have hf1 := (hb1.block _ hz).trans hf0
        refine written_A w hG W1 (below_then hb0 hb0.size hb1) w.heap.size _ k x hx (Nat.lt_of_lt_of_le hz hb1.size) _ 30 (by decide) hf1 ?_
        intro b W' hI hg hgb
        exact WriteAnswer1_go w hG b w.heap.size [] a0_0 a0_1 A0_2 c0_2 l0_2 W' hI hg hgb hr0_2 hc0_2 (intOk_all h1) (fun o ho => intOk_all (List.all_eq_true.mp h2 o ho)) (by simpa using hlen)
      have HWr := Lib.hid HW
      clear hr0_2 hc0_2 hG hb0 hf0 ht HW hlen h1 h2 hfit hx
      go_enter Tryz.func29, Tryz.ntmps29
      go_wp2_with fail
      refine HV.out.mono ?_
      rintro e W1 ⟨rfl, hb1⟩
      have HB1 := Lib.hid hb1
      clear hb1 HV
      go_wp2_with fail
      refine (HWr.out _ HB1.out).mono ?_
      rintro e W2 ⟨rfl, hb2⟩
      have HB2 := Lib.hid hb2
      clear hb2
      go_wp2_with fail
      go_ret2
      exact ⟨rfl, HB2.out⟩
    · cases h
end Go.Proofs.YtndojpcjhkncgaaGreatDoor.Q
end

section

end

section

end

section

end

section

end

section

end

section

end

section
namespace Go.Proofs.YtndojpcjhkncgaaGreatDoor.Q
open Go.RowKit Go.Proofs.YtndojpcjhkncgaaGreatDoorW.PrintWords
set_option linter.unusedVariables false
set_option linter.unusedSimpArgs false
def B (l : List UInt8) : ByteArray := ⟨l.toArray⟩
theorem B_size (l : List UInt8) : (B l).size = l.length := by show l.toArray.size = _; simp
theorem B_cat (a b : List UInt8) : B a ++ B b = B (a ++ b) := by
  apply ByteArray.ext
  rw [ByteArray.data_append]
  simp [B]
theorem B_list (l : List UInt8) : (B l).toList = l := by rw [ByteArray.toList_eq]; simp [B] 
theorem B_bt (l : List UInt8) (i : Nat) (h : i < l.length) : bt (B l) (i : Int) = (l[i].toNat : Int) := by
  unfold bt
  rw [dif_pos (by rw [B_size]; simpa using h)]
  rfl
theorem itoa_len (n : Int) (h0 : -4611686018427387904 ≤ n) (h1 : n ≤ 4611686018427387904) : (Lib.itoa n).length ≤ 21 := Lib.itoa_length_le n (by omega) (by omega)
theorem dec_small (u : Nat) (h : u < 10) : Lib.decDigits u = [UInt8.ofNat (48 + u)] := by rw [Lib.decDigits, dif_pos h]
theorem dec_big (u : Nat) (h : ¬ u < 10) : Lib.decDigits u = Lib.decDigits (u / 10) ++ [UInt8.ofNat (48 + u % 10)] := by rw [Lib.decDigits, dif_neg h]
def okI (n : Int) : Prop := -4611686018427387904 ≤ n ∧ n ≤ 4611686018427387904
theorem numsL_cons (n : Int) (l : List Int) : numsL (n :: l) = [32] ++ Lib.itoa n ++ numsL l := by simp [numsL]
theorem numsL_len : ∀ (l : List Int), (∀ n ∈ l, okI n) → (numsL l).length ≤ 22 * l.length
  | [], _ => by simp [numsL]
  | n :: l, h => by
    have h1 := numsL_len l (fun m hm => h m (List.mem_cons_of_mem _ hm))
    have h2 := itoa_len n (h n (List.mem_cons_self)).1 (h n (List.mem_cons_self)).2
    rw [numsL_cons]
    simp only [List.length_append, List.length_cons, List.length_nil]
    omega
theorem lineL_len (word : List UInt8) (ns : List Int) (hn : ∀ n ∈ ns, okI n) : (lineL word ns).length ≤ word.length + 22 * ns.length + 1 := by
  have := numsL_len ns hn
  unfold lineL
  simp only [List.length_append, List.length_cons, List.length_nil]
  omega
def hexR : Nat → Nat → List UInt8
  | 0, _ => []
  | j + 1, n => hexR j (n / 16) ++ [dig (n % 16)]
theorem hexR_zero : ∀ j, hexR j 0 = List.replicate j 48
  | 0 => rfl
  | j + 1 => by rw [hexR, Nat.zero_div, hexR_zero j, List.replicate_succ']; rfl
theorem hexR_eq : ∀ (j n : Nat), n < 16 ^ (j + 1) → hexR (j + 1) n = List.replicate (j + 1 - (hexL n).length) 48 ++ hexL n := by
  intro j
  induction j with
  | zero => intro n hn; rw [hexL_small n (by simpa using hn)]; simp [hexR]; rw [Nat.mod_eq_of_lt (by simpa using hn)]
  | succ j ih =>
    intro n hn
    rw [hexR]
    by_cases h : n < 16
    · rw [Nat.div_eq_of_lt h, hexR_zero, hexL_small n h, Nat.mod_eq_of_lt h]; simp
    · rw [ih (n / 16) (by rw [Nat.div_lt_iff_lt_mul (by omega), ← Nat.pow_succ]; exact hn), hexL_big n (by omega)]
      simp [List.append_assoc]
theorem hexR_8 (n : Nat) (h : n < 4294967296) : hexR 8 n = hex8 n := hexR_eq 7 n (by omega)
theorem hexR_len : ∀ j n, (hexR j n).length = j
  | 0, _ => rfl
  | j + 1, n => by rw [hexR, List.length_append, hexR_len j]; rfl
theorem hex8_len (n : Nat) (h : n < 4294967296) : (hex8 n).length = 8 := by rw [← hexR_8 n h, hexR_len]
def sums : Nat → Nat → Nat → List UInt8 → Nat × Nat
  | _, a, w, [] => (a, w)
  | i, a, w, c :: l => sums (i + 1) ((a + c.toNat) % 4294967296) ((w + (i + 1) * c.toNat) % 4294967296) l
theorem sums_lt : ∀ (l : List UInt8) (i a w : Nat), a < 4294967296 → w < 4294967296 → (sums i a w l).1 < 4294967296 ∧ (sums i a w l).2 < 4294967296
  | [], _, _, _, h, h' => ⟨h, h'⟩
  | c :: l, i, a, w, h, h' => sums_lt l (i + 1) _ _ (Nat.mod_lt _ (by omega)) (Nat.mod_lt _ (by omega))
def endL (l : List UInt8) : List UInt8 := [69, 78, 68, 32] ++ hex8 (sums 0 0 0 l).1 ++ [32] ++ hex8 (sums 0 0 0 l).2 ++ [10]
theorem endL_len (l : List UInt8) : (endL l).length = 22 := by
  have h := sums_lt l 0 0 0 (by omega) (by omega)
  unfold endL
  simp only [List.length_append, List.length_cons, List.length_nil]
  rw [hex8_len _ h.1, hex8_len _ h.2]
theorem end_text (a w : Nat) (ha : a < 4294967296) (hw : w < 4294967296) {f : Nat → Option ByteArray} {g : Nat → Option ByteArray} (hf : Ev f (B (hex8 a))) (hg : Ev g (B (hex8 w))) :
    Ev (fun k => (f k).bind fun t210 => (if 4 + t210.size ≤ 9223372036854775807 then (if 4 + t210.size + 1 ≤ 9223372036854775807 then ((g k).bind fun t211 => (if 4 + t210.size + 1 + t211.size ≤ 9223372036854775807 then (if 4 + t210.size + 1 + t211.size + 1 ≤ 9223372036854775807 then (some (((((⟨#[69, 78, 68, 32]⟩ : ByteArray) ++ t210) ++ (⟨#[32]⟩ : ByteArray)) ++ t211) ++ (⟨#[10]⟩ : ByteArray))) else (none)) else (none))) else (none)) else (none)))
      (B ([69, 78, 68, 32] ++ hex8 a ++ [32] ++ hex8 w ++ [10])) := by
  have h1 := hex8_len a ha
  have h2 := hex8_len w hw
  refine Ev.bind hf (Ev.pos (by rw [B_size]; omega) (Ev.pos (by rw [B_size]; omega) (Ev.bind hg (Ev.pos (by rw [B_size, B_size]; omega) (Ev.pos (by rw [B_size, B_size]; omega) (Ev.ret ?_))))))
  rw [show (⟨#[69, 78, 68, 32]⟩ : ByteArray) = B [69, 78, 68, 32] from rfl, show (⟨#[32]⟩ : ByteArray) = B [32] from rfl, show (⟨#[10]⟩ : ByteArray) = B [10] from rfl, B_cat, B_cat, B_cat, B_cat]
theorem bankhex_ev (n : Nat) (hn : n < 4294967296) : Ev (fun _ => bank_hex.f (n : Int)) (B (hex8 n)) := Ev.fix (by unfold bank_hex.f; rw [if_pos (by omega)]; rfl)
theorem bankEnd_l0 (L : List UInt8) (hL : L.length ≤ 4398046511104) (d : Nat) : ∀ (i a w : Nat), i + d = L.length → a < 4294967296 → w < 4294967296 →
    Ev (fun k => bank_end.l0 k (B L) (a : Int) (w : Int) (L.length : Int) (i : Int)) (B ([69, 78, 68, 32] ++ hex8 (sums i a w (L.drop i)).1 ++ [32] ++ hex8 (sums i a w (L.drop i)).2 ++ [10])) := by
  induction d with
  | zero =>
    intro i a w hi ha hw
    rw [List.drop_eq_nil_of_le (by omega)]
    exact Ev.step (fun k => by rw [bank_end.l0]) (Ev.neg (by omega) (end_text a w ha hw (bankhex_ev a ha) (bankhex_ev w hw)))
  | succ d ih =>
    intro i a w hi ha hw
    have hlt : i < L.length := by omega
    rw [drop_get L i hlt]
    refine Ev.step (fun k => by rw [bank_end.l0]) (Ev.pos (by omega) (Ev.pos (by omega) (Ev.pos (by rw [B_size]; omega) ?_)))
    obtain ⟨c, hc⟩ : ∃ c, L[i] = c := ⟨_, rfl⟩
    rw [B_bt L i hlt, hc]
    have hb := c.toNat_lt
    rw [w64 (n := (i : Int) + 1) (by omega) (by omega)]
    have e1 : (((a : Int) + ((c.toNat : Int) % 4294967296)) % 4294967296) = (((a + c.toNat) % 4294967296 : Nat) : Int) := by omega
    have e2 : (((w : Int) + (((((i : Int) + 1) % 4294967296) * ((c.toNat : Int) % 4294967296)) % 4294967296)) % 4294967296) = (((w + (i + 1) * c.toNat) % 4294967296 : Nat) : Int) := by
      rw [← Int.mul_emod, show ((i : Int) + 1) * (c.toNat : Int) = (((i + 1) * c.toNat : Nat) : Int) by rw [Int.natCast_mul, Int.natCast_add]; rfl]
      omega
    rw [e1, e2]
    exact ih (i + 1) ((a + c.toNat) % 4294967296) ((w + (i + 1) * c.toNat) % 4294967296) (by omega) (Nat.mod_lt _ (by omega)) (Nat.mod_lt _ (by omega))
theorem bankEnd_ev (L : List UInt8) (hL : L.length ≤ 4398046511104) : Ev (fun k => bank_end.f k (B L)) (B (endL L)) := by
  unfold bank_end.f
  rw [B_size]
  exact bankEnd_l0 L hL L.length 0 0 0 (by omega) (by omega) (by omega)
theorem closed_ev (L : List UInt8) (hL : L.length ≤ 4398046511104) : Ev (fun k => closedL k L) (B (L ++ endL L)) := by
  unfold closedL
  refine Ev.pos (by omega) (Ev.bind (bankEnd_ev L hL) (Ev.pos (by rw [B_size, endL_len]; omega) (Ev.ret ?_)))
  exact B_cat L (endL L)
end Go.Proofs.YtndojpcjhkncgaaGreatDoor.Q
end

section
namespace Go.Proofs.YtndojpcjhkncgaaGreatDoor.Q
open Go.RowKit Go.Proofs.YtndojpcjhkncgaaGreatDoorW.PrintWords
set_option linter.unusedVariables false
set_option linter.unusedSimpArgs false
theorem okI_intOk {n : Int} (h : okI n) : intOk n = true := by unfold okI at h; simp [intOk]; omega
theorem order_okI {o : S47} (h : orderB o = true) : ∀ n ∈ [o.f0, o.f1, o.f2, o.f3, o.f4], okI n := by
  simp only [orderB, countB, Bool.and_eq_true, decide_eq_true_eq] at h
  unfold okI
  intro n hn
  simp only [List.mem_cons, List.not_mem_nil, or_false] at hn
  omega
theorem orders_mem : ∀ (l : List S47) (last tot : Int), ordersB last tot l = true → ∀ o ∈ l, orderB o = true
  | [], _, _, _, o, ho => by cases ho
  | x :: l, last, tot, h, o, ho => by
    simp only [ordersB, Bool.and_eq_true] at h
    rcases List.mem_cons.mp ho with rfl | ho
    · exact h.1
    · exact orders_mem l _ _ h.2.2.2 o ho
theorem head_okI {n d : Int} {L : List S47} (h : validB n d L = true) : ∀ m ∈ [n, d, (L.length : Int), netSum L], okI m := by
  obtain ⟨h0, h1, h2⟩ := valid_orders h
  have h3 := netSum_le L 0 0 (by omega) (by omega) h2
  simp only [datedB, countB, Bool.and_eq_true, decide_eq_true_eq] at h0
  unfold okI
  intro m hm
  simp only [List.mem_cons, List.not_mem_nil, or_false] at hm
  omega
theorem flat_len {α : Type} (f : α → List UInt8) (c : Nat) : ∀ (l : List α), (∀ x ∈ l, (f x).length ≤ c) → (l.flatMap f).length ≤ c * l.length
  | [], _ => by simp
  | x :: l, h => by
    have h1 := flat_len f c l (fun y hy => h y (List.mem_cons_of_mem _ hy))
    have h2 := h x (List.mem_cons_self)
    rw [List.flatMap_cons, List.length_append, List.length_cons, Nat.mul_add]
    omega
theorem orderL_len {o : S47} (h : orderB o = true) : (orderL o).length ≤ 116 := by
  have := lineL_len [111, 114, 100, 101, 114] _ (order_okI h)
  simpa [orderL] using this
theorem fileL_len {n d : Int} {L : List S47} (h : validB n d L = true) : (fileL n d L (netSum L)).length ≤ 92 + 116 * L.length := by
  obtain ⟨h0, h1, h2⟩ := valid_orders h
  have h3 := lineL_len [80, 65, 89] _ (head_okI h)
  have h4 := flat_len orderL 116 L (fun o ho => orderL_len (orders_mem L 0 0 h2 o ho))
  unfold fileL
  rw [List.length_append]
  simp only [List.length_cons, List.length_nil] at h3
  omega
theorem fits_valid {n d : Int} {L : List S47} (h : validB n d L = true) : fitsF n d L (netSum L) = true := by
  obtain ⟨h0, h1, h2⟩ := valid_orders h
  unfold fitsF
  rw [Bool.and_eq_true]
  refine ⟨List.all_eq_true.mpr fun m hm => okI_intOk (head_okI h m hm), List.all_eq_true.mpr fun o ho => List.all_eq_true.mpr fun m hm => okI_intOk (order_okI (orders_mem L 0 0 h2 o ho) m hm)⟩
def fileText (n d : Int) (L : List S47) : List UInt8 := fileL n d L (netSum L) ++ endL (fileL n d L (netSum L))
def writeS (n d : Int) (L : List S47) : ByteArray × Int := if validB n d L = true then (B (fileText n d L), 0) else (B [], 2)
theorem Write_ev (n d : Int) (L : List S47) (hL : (L.length : Int) ≤ 4611686018427387904) : Ev (fun k => bank_Write.f k n d L) (writeS n d L) := by
  unfold bank_Write.f writeS
  refine Ev.bind (Valid_ev n d L hL) ?_
  cases h : validB n d L with
  | false => exact Ev.neg (by simp) (Ev.now (B [], 2))
  | true =>
    have hl := fileL_len h
    have h1 := (valid_orders h).2.1
    refine Ev.pos rfl (Ev.bind (total_ev n d L h).1 (Ev.pos (fits_valid h) (Ev.bind (closed_ev _ (by omega)) ?_)))
    exact Ev.now (B (fileText n d L), 0)
theorem back_okI {o : S49} (h : backB o = true) : ∀ n ∈ [o.f0, o.f1], okI n := by
  simp only [backB, countB, Bool.and_eq_true, decide_eq_true_eq] at h
  unfold okI
  intro n hn
  simp only [List.mem_cons, List.not_mem_nil, or_false] at hn
  omega
theorem backs_mem : ∀ (l : List S49) (last : Int), backsB last l = true → ∀ o ∈ l, backB o = true
  | [], _, _, o, ho => by cases ho
  | x :: l, last, h, o, ho => by
    simp only [backsB, Bool.and_eq_true] at h
    rcases List.mem_cons.mp ho with rfl | ho
    · exact h.2.1
    · exact backs_mem l _ h.2.2 o ho
theorem right_parts {n d : Int} {L : List S49} (h : rightB n d L = true) : backsB 0 L = true ∧ datedB n d = true ∧ (L.length : Int) ≤ 1000 := by
  simp only [rightB, Bool.and_eq_true, decide_eq_true_eq] at h
  exact h
theorem headA_okI {n d : Int} {L : List S49} (h : rightB n d L = true) : ∀ m ∈ [n, d, (L.length : Int)], okI m := by
  obtain ⟨_, h0, h1⟩ := right_parts h
  simp only [datedB, countB, Bool.and_eq_true, decide_eq_true_eq] at h0
  unfold okI
  intro m hm
  simp only [List.mem_cons, List.not_mem_nil, or_false] at hm
  omega
theorem returnL_len {o : S49} (h : backB o = true) : (returnL o).length ≤ 51 := by
  have := lineL_len [114, 101, 116, 117, 114, 110] _ (back_okI h)
  simpa [returnL] using this
theorem answerL_len {n d : Int} {L : List S49} (h : rightB n d L = true) : (answerL n d L).length ≤ 71 + 51 * L.length := by
  obtain ⟨h2, h0, h1⟩ := right_parts h
  have h3 := lineL_len [66, 65, 67, 75] _ (headA_okI h)
  have h4 := flat_len returnL 51 L (fun o ho => returnL_len (backs_mem L 0 h2 o ho))
  unfold answerL
  rw [List.length_append]
  simp only [List.length_cons, List.length_nil] at h3
  omega
theorem fits_right {n d : Int} {L : List S49} (h : rightB n d L = true) : fitsA n d L = true := by
  obtain ⟨h2, h0, h1⟩ := right_parts h
  unfold fitsA
  rw [Bool.and_eq_true]
  refine ⟨List.all_eq_true.mpr fun m hm => okI_intOk (headA_okI h m hm), List.all_eq_true.mpr fun o ho => List.all_eq_true.mpr fun m hm => okI_intOk (back_okI (backs_mem L 0 h2 o ho) m hm)⟩
def answerText (n d : Int) (L : List S49) : List UInt8 := answerL n d L ++ endL (answerL n d L)
def answerS (n d : Int) (L : List S49) : ByteArray × Int := if rightB n d L = true then (B (answerText n d L), 0) else (B [], 2)
theorem WriteAnswer_ev (n d : Int) (L : List S49) (hL : (L.length : Int) ≤ 4611686018427387904) : Ev (fun k => bank_WriteAnswer.f k n d L) (answerS n d L) := by
  unfold bank_WriteAnswer.f answerS
  refine Ev.bind (Right_ev n d L hL) ?_
  cases h : rightB n d L with
  | false => exact Ev.neg (by simp) (Ev.now (B [], 2))
  | true =>
    have hl := answerL_len h
    have h1 := (right_parts h).2.2
    refine Ev.pos rfl (Ev.pos (fits_right h) (Ev.bind (closed_ev _ (by omega)) ?_))
    exact Ev.now (B (answerText n d L), 0)
end Go.Proofs.YtndojpcjhkncgaaGreatDoor.Q
end

section
namespace Go.Proofs.YtndojpcjhkncgaaGreatDoor.Q
open Go.RowKit Go.Proofs.YtndojpcjhkncgaaGreatDoorW.PrintWords Go.Proofs.YtndojpcjhkncgaaGreatDoorW.PrintLast Go.Proofs.YtndojpcjhkncgaaGreatDoorW.PrintMore
attribute [local go_sem] max2_int min2_int max_two min_two max_three min_three max_four min_four   -- for this text's walks alone
set_option linter.unusedVariables false
set_option linter.unusedSimpArgs false
theorem eqA47 (d : Nat) (w : World) (x0 y0 : Int) (x1 y1 : Int) (x2 y2 : Int) (x3 y3 : Int) (x4 y4 : Int) :
    (Op.equalIn (d + 2) 47 (.agg #[.int .i64 x0, .int .i64 x1, .int .i64 x2, .int .i64 x3, .int .i64 x4]) (.agg #[.int .i64 y0, .int .i64 y1, .int .i64 y2, .int .i64 y3, .int .i64 y4])).run Tryz.prog w = .ok (x0 == y0 && (x1 == y1 && (x2 == y2 && (x3 == y3 && (x4 == y4))))) w := by
  refine eqA_of Tryz.underlying47 (by kernel_rfl) ?_
  refine eqf_cons (by rfl) (by go_simp; rfl) (by go_simp; rfl) (by go_simp) ?_
  refine eqf_cons (by rfl) (by go_simp; rfl) (by go_simp; rfl) (by go_simp) ?_
  refine eqf_cons (by rfl) (by go_simp; rfl) (by go_simp; rfl) (by go_simp) ?_
  refine eqf_cons (by rfl) (by go_simp; rfl) (by go_simp; rfl) (by go_simp) ?_
  exact eqf_last (by rfl) (by go_simp; rfl) (by go_simp; rfl) (by go_simp)
end Go.Proofs.YtndojpcjhkncgaaGreatDoor.Q
end

section
namespace Go.Proofs.YtndojpcjhkncgaaGreatDoor.Q
open Go.RowKit Go.Proofs.YtndojpcjhkncgaaGreatDoorW.PrintWords Go.Proofs.YtndojpcjhkncgaaGreatDoorW.PrintLast Go.Proofs.YtndojpcjhkncgaaGreatDoorW.PrintMore
attribute [local go_sem] max2_int min2_int max_two min_two max_three min_three max_four min_four   -- for this text's walks alone
set_option linter.unusedVariables false
set_option linter.unusedSimpArgs false
def annuitantlaw36_two.f  : Option (Int × Int × (List (S47)) × Int × Int × (List (S49))) := some (7, 100, (([(⟨3, 55, 1000, 200, 800⟩ : S47), (⟨4, 56, 50, 0, 50⟩ : S47)] : List (S47))), 7, 102, (([(⟨4, 2⟩ : S49)] : List (S49))))
set_option maxHeartbeats 8000000 in
set_option maxRecDepth 100000 in
theorem annuitantlaw36_two.calls  (r1 : Int) (r2 : Int) (r3 : List (S47)) (r4 : Int) (r5 : Int) (r6 : List (S49)) (w : World) (h : annuitantlaw36_two.f  = some (r1, r2, r3, r4, r5, r6)) :
  Calls Tryz.prog 12 #[] w fun e w' => ∃ v2_ v5_ : Value, e = .returned (.tuple #[.agg #[.int .i64 r1, .int .i64 r2, v2_], .agg #[.int .i64 r4, .int .i64 r5, v5_]]) ∧ Kd.R k47 47 w' w.heap.size (fun _ => True) v2_ r3 ∧ Kd.R k49 49 w' w.heap.size (fun _ => True) v5_ r6 ∧ Below w.heap.size w w' := by
 have hu27 := Tryz.underlying27; have hu30 := Tryz.underlying30; have hu47 := Tryz.underlying47; have hu49 := Tryz.underlying49; have HB := Aside0.mk (Below.refl w.heap.size w); have H : (some (7, 100, (([(⟨3, 55, 1000, 200, 800⟩ : S47), (⟨4, 56, 50, 0, 50⟩ : S47)] : List (S47))), 7, 102, (([(⟨4, 2⟩ : S49)] : List (S49))))) = some (r1, r2, r3, r4, r5, r6) := h; clear h
 obtain ⟨y103, hy103⟩ : ∃ y_ : List (S47), y_ = (([(⟨3, 55, 1000, 200, 800⟩ : S47), (⟨4, 56, 50, 0, 50⟩ : S47)] : List (S47))) := ⟨_, rfl⟩
 replace H : (some (7, 100, y103, 7, 102, (([(⟨4, 2⟩ : S49)] : List (S49))))) = some (r1, r2, r3, r4, r5, r6) := by first | (rw [hy103]; with_reducible exact H) | (have H2_ := (Option.bind_some _ _).symm.trans H; rw [hy103]; with_reducible exact H2_) | (have H2_ := (Option.bind_some _ _).symm.trans H; with_reducible exact H2_) | with_reducible exact H | (rw [hy103]; exact H) | exact H
 have Ny103 := Aside0.mk hy103; clear hy103
 obtain ⟨y107, hy107⟩ : ∃ y_ : List (S49), y_ = (([(⟨4, 2⟩ : S49)] : List (S49))) := ⟨_, rfl⟩
 replace H : (some (7, 100, y103, 7, 102, y107)) = some (r1, r2, r3, r4, r5, r6) := by first | (rw [hy107]; with_reducible exact H) | (have H2_ := (Option.bind_some _ _).symm.trans H; rw [hy107]; with_reducible exact H2_) | (have H2_ := (Option.bind_some _ _).symm.trans H; with_reducible exact H2_) | with_reducible exact H | (rw [hy107]; exact H) | exact H
 have Ny107 := Aside0.mk hy107; clear hy107
 simp only [Option.some.injEq, Prod.mk.injEq] at H
 obtain ⟨rfl, rfl, rfl, rfl, rfl, rfl⟩ := H
 go_enter Tryz.func12, Tryz.ntmps12
 go_wp2_with (first | ((with_reducible refine gate_dst (N := 0) rfl ?_); refine box_event ?hg (N := 0) ?hd (cs := #[.int .i64 0, .int .i64 0, .slice none 0 0]) (t := 27) ?hr ?_; (case hd => rfl); (case hg => rfl); (case hr => first | (go_simp; done) | (go_simp; rfl)); intro gb101 hg w1 hbox hb; have BK101 := Aside0.mk (hbox); have GW101 := zG (w := w) hg; have GE101 := zG (w := w) hg; replace HB := zBs hb; clear hb hbox hg) | ((with_reducible refine gate_dst (N := 1) rfl ?_); refine box_event ?hg (N := 1) ?hd (cs := #[.int .i64 0, .int .i64 0, .slice none 0 0]) (t := 30) ?hr ?_; (case hd => rfl); (case hg => rfl); (case hr => first | (go_simp; done) | (go_simp; rfl)); intro gb102 hg w2 hbox hb; have BK102 := Aside0.mk (hbox); have GW102 := zG (w := w) hg; have GE102 := zG (w := w) hg; replace HB := zBs hb; have NB101_102 := zN hg (zK BK101); have NB102_101 := zM hg (zK BK101); replace BK101 := zKb BK101 hb; clear hb hbox hg) | ((with_reducible refine gate_dst (N := 5) rfl ?_); refine Kd.R_lit k47 _ 47 ?hg (N := 5) ?hd (xs := ([(⟨3, 55, 1000, 200, 800⟩ : S47), (⟨4, 56, 50, 0, 50⟩ : S47)] : List (S47))) (inner := [.int .i64 3, .int .i64 55, .int .i64 1000, .int .i64 200, .int .i64 800, .int .i64 4, .int .i64 56, .int .i64 50, .int .i64 0, .int .i64 50]) (ok := fun _ => True) (okp := fun _ => True) ?hr ?hp (fun _ hk => hk) trivial (Below.refl _ _) (Nat.le_refl _) (by simp) ?_; (case hd => rfl); (case hg => rfl); (case hr => first | (go_simp; done) | (go_simp; rfl)); (case hp => exact (Reps.c5 (show Kd.M k47 _ _ _ (⟨3, 55, 1000, 200, 800⟩ : S47) [.int .i64 3, .int .i64 55, .int .i64 1000, .int .i64 200, .int .i64 800] from (k47_mkM _ _ _ (⟨3, 55, 1000, 200, 800⟩ : S47) )) (Reps.c5 (show Kd.M k47 _ _ _ (⟨4, 56, 50, 0, 50⟩ : S47) [.int .i64 4, .int .i64 56, .int .i64 50, .int .i64 0, .int .i64 50] from (k47_mkM _ _ _ (⟨4, 56, 50, 0, 50⟩ : S47) )) (Reps.none _ _)))); intro v104 w3 ho4 hb hg_ hnew_; clear hg_ hnew_; (first | rw [← Ny103.out] at ho4 | (simp only [Int.reduceToNat] at ho4; rw [← Ny103.out] at ho4)); have HO105 := Aside0.mk (Kd.R_lower ho4 (below_size zB)); replace BK101 := zKb BK101 hb; replace BK102 := zKb BK102 hb; replace HB := zBs hb; clear hb ho4; obtain ⟨Ao5, co5, eo5⟩ := Kd.R_slice HO105.out; subst eo5) | ((with_reducible refine gate_dst (N := 2) rfl ?_); refine box_event ?hg (N := 2) ?hd (cs := #[.int .i64 0, .int .i64 0, .slice none 0 0]) (t := 27) ?hr ?_; (case hd => rfl); (case hg => rfl); (case hr => first | (go_simp; done) | (go_simp; rfl)); intro gb106 hg w6 hbox hb; replace HO105 := Aside0.mk (Kd.R_below (zR HO105) hb); have BK106 := Aside0.mk (hbox); have GW106 := zG (w := w) hg; have GE106 := zG (w := w) hg; replace HB := zBs hb; have NB101_106 := zN hg (zK BK101); have NB106_101 := zM hg (zK BK101); replace BK101 := zKb BK101 hb; have NB102_106 := zN hg (zK BK102); have NB106_102 := zM hg (zK BK102); replace BK102 := zKb BK102 hb; clear hb hbox hg; have hnb7 := NB106_101.out; have hnc7 := NB101_106.out; have hnb8 := NB106_102.out; have hnc8 := NB102_106.out; obtain ⟨hcz9_0, hcz9_1, hcz9_2⟩ := zC3 BK106; obtain ⟨hfz9_0, hfz9_1, hfz9_2⟩ := zZ3 BK106) | ((with_reducible refine gate_dst (N := 9) rfl ?_); refine Kd.R_lit k49 _ 49 ?hg (N := 9) ?hd (xs := ([(⟨4, 2⟩ : S49)] : List (S49))) (inner := [.int .i64 4, .int .i64 2]) (ok := fun _ => True) (okp := fun _ => True) ?hr ?hp (fun _ hk => hk) trivial (Below.refl _ _) (Nat.le_refl _) (by simp) ?_; (case hd => rfl); (case hg => rfl); (case hr => first | (go_simp; done) | (go_simp; rfl)); (case hp => exact (Reps.c2 (show Kd.M k49 _ _ _ (⟨4, 2⟩ : S49) [.int .i64 4, .int .i64 2] from (k49_mkM _ _ _ (⟨4, 2⟩ : S49) )) (Reps.none _ _))); intro v108 w10 ho11 hb hg_ hnew_; clear hg_ hnew_; (first | rw [← Ny107.out] at ho11 | (simp only [Int.reduceToNat] at ho11; rw [← Ny107.out] at ho11)); replace HO105 := Aside0.mk (Kd.R_below (by (with_reducible repeat (first | apply Kd.R_alloc | apply Kd.R_drewN | apply Kd.R_drew)); exact (Kd.R_mono (Kd.R_far (p := ⟨gb106, 2, none⟩) (Kd.R_far (p := ⟨gb106, 1, none⟩) (Kd.R_far (p := ⟨gb106, 0, none⟩) (Kd.R_types HO105.out BK106.out (by decide)) (fun _ hk => hk.2) (.int .i64 7)) (fun _ hk => hk.2) (.int .i64 100)) (fun _ hk => hk.2) (.slice Ao5 y103.length co5)) (fun _ h_ => h_.1))) hb); have HO109 := Aside0.mk (Kd.R_lower ho11 (below_size zB)); replace BK101 := Aside0.mk (blk_below (zF BK101) hb); replace BK102 := Aside0.mk (blk_below (zF BK102) hb); replace BK106 := Aside0.mk (blk_below (g := gb106) (o := .cells #[.int .i64 7, .int .i64 100, .slice Ao5 y103.length co5] 27 (0, 0)) (by (with_reducible repeat (first | apply blk_drewN | apply blk_drew | apply blk_alloc)); refine blk_put (cs := #[.int .i64 7, .int .i64 100, .slice none 0 0]) ?_ 2 _ rfl; (with_reducible repeat (first | apply blk_drewN | apply blk_drew | apply blk_alloc)); refine blk_put (cs := #[.int .i64 7, .int .i64 0, .slice none 0 0]) ?_ 1 _ rfl; (with_reducible repeat (first | apply blk_drewN | apply blk_drew | apply blk_alloc)); refine blk_put (cs := #[.int .i64 0, .int .i64 0, .slice none 0 0]) ?_ 0 _ rfl; (with_reducible repeat (first | apply blk_drewN | apply blk_drew | apply blk_alloc)); exact BK106.out) hb); replace HB := zBs hb; clear hb ho11; obtain ⟨Ao12, co12, eo12⟩ := Kd.R_slice HO109.out; subst eo12; have hnb13 := NB101_102.out; have hnc13 := NB102_101.out; obtain ⟨hcz14_0, hcz14_1, hcz14_2⟩ := zC3 BK101; obtain ⟨hfz14_0, hfz14_1, hfz14_2⟩ := zZ3 BK101; obtain ⟨hcz15_0, hcz15_1, hcz15_2⟩ := zC3 BK102; obtain ⟨hfz15_0, hfz15_1, hfz15_2⟩ := zZ3 BK102))
 refine bodyPost_ret (results_cc rfl _ _ gb101 gb102 27 30 #[.int .i64 7, .int .i64 100, .slice Ao5 y103.length co5] #[.int .i64 7, .int .i64 102, .slice Ao12 y107.length co12] (0, 0) (0, 0) _ _ rfl (by (with_reducible repeat (first | apply blk_drewN | apply blk_drew | apply blk_alloc)); refine blk_far ?_ NB101_102.out _; (with_reducible repeat (first | apply blk_drewN | apply blk_drew | apply blk_alloc)); refine blk_far ?_ NB101_102.out _; (with_reducible repeat (first | apply blk_drewN | apply blk_drew | apply blk_alloc)); refine blk_far ?_ NB101_102.out _; (with_reducible repeat (first | apply blk_drewN | apply blk_drew | apply blk_alloc)); refine blk_put (cs := #[.int .i64 7, .int .i64 100, .slice none 0 0]) ?_ 2 _ rfl; (with_reducible repeat (first | apply blk_drewN | apply blk_drew | apply blk_alloc)); refine blk_put (cs := #[.int .i64 7, .int .i64 0, .slice none 0 0]) ?_ 1 _ rfl; (with_reducible repeat (first | apply blk_drewN | apply blk_drew | apply blk_alloc)); refine blk_put (cs := #[.int .i64 0, .int .i64 0, .slice none 0 0]) ?_ 0 _ rfl; (with_reducible repeat (first | apply blk_drewN | apply blk_drew | apply blk_alloc)); exact BK101.out) Tryz.underlying27 rfl (by kernel_rfl) rfl (by (with_reducible repeat (first | apply blk_drewN | apply blk_drew | apply blk_alloc)); refine blk_put (cs := #[.int .i64 7, .int .i64 102, .slice none 0 0]) ?_ 2 _ rfl; (with_reducible repeat (first | apply blk_drewN | apply blk_drew | apply blk_alloc)); refine blk_put (cs := #[.int .i64 7, .int .i64 0, .slice none 0 0]) ?_ 1 _ rfl; (with_reducible repeat (first | apply blk_drewN | apply blk_drew | apply blk_alloc)); refine blk_put (cs := #[.int .i64 0, .int .i64 0, .slice none 0 0]) ?_ 0 _ rfl; (with_reducible repeat (first | apply blk_drewN | apply blk_drew | apply blk_alloc)); refine blk_far ?_ NB102_101.out _; (with_reducible repeat (first | apply blk_drewN | apply blk_drew | apply blk_alloc)); refine blk_far ?_ NB102_101.out _; (with_reducible repeat (first | apply blk_drewN | apply blk_drew | apply blk_alloc)); refine blk_far ?_ NB102_101.out _; (with_reducible repeat (first | apply blk_drewN | apply blk_drew | apply blk_alloc)); exact BK102.out) Tryz.underlying30 rfl (by kernel_rfl)) rfl ?_
 exact ⟨_, _, zE, by (with_reducible repeat (first | apply Kd.R_alloc | apply Kd.R_drewN | apply Kd.R_drew)); exact Kd.R_mono (Kd.R_far (p := ⟨gb102, 2, none⟩) (Kd.R_far (p := ⟨gb102, 1, none⟩) (Kd.R_far (p := ⟨gb102, 0, none⟩) (Kd.R_far (p := ⟨gb101, 2, none⟩) (Kd.R_far (p := ⟨gb101, 1, none⟩) (Kd.R_far (p := ⟨gb101, 0, none⟩) (Kd.R_types (Kd.R_types HO105.out BK101.out (by decide)) BK102.out (by decide)) (fun _ hk => hk.1.2) (.int .i64 7)) (fun _ hk => hk.1.2) (.int .i64 100)) (fun _ hk => hk.1.2) (.slice Ao5 y103.length co5)) (fun _ hk => hk.2) (.int .i64 7)) (fun _ hk => hk.2) (.int .i64 102)) (fun _ hk => hk.2) (.slice Ao12 y107.length co12)) (fun _ hk => trivial), by (with_reducible repeat (first | apply Kd.R_alloc | apply Kd.R_drewN | apply Kd.R_drew)); exact Kd.R_mono (Kd.R_far (p := ⟨gb102, 2, none⟩) (Kd.R_far (p := ⟨gb102, 1, none⟩) (Kd.R_far (p := ⟨gb102, 0, none⟩) (Kd.R_far (p := ⟨gb101, 2, none⟩) (Kd.R_far (p := ⟨gb101, 1, none⟩) (Kd.R_far (p := ⟨gb101, 0, none⟩) (Kd.R_types (Kd.R_types HO109.out BK101.out (by decide)) BK102.out (by decide)) (fun _ hk => hk.1.2) (.int .i64 7)) (fun _ hk => hk.1.2) (.int .i64 100)) (fun _ hk => hk.1.2) (.slice Ao5 y103.length co5)) (fun _ hk => hk.2) (.int .i64 7)) (fun _ hk => hk.2) (.int .i64 102)) (fun _ hk => hk.2) (.slice Ao12 y107.length co12)) (fun _ hk => trivial), zB⟩
end Go.Proofs.YtndojpcjhkncgaaGreatDoor.Q
end

section
namespace Go.Proofs.YtndojpcjhkncgaaGreatDoor.Q
open Go.RowKit Go.Proofs.YtndojpcjhkncgaaGreatDoorW.PrintWords Go.Proofs.YtndojpcjhkncgaaGreatDoorW.PrintLast Go.Proofs.YtndojpcjhkncgaaGreatDoorW.PrintMore
attribute [local go_sem] max2_int min2_int max_two min_two max_three min_three max_four min_four   -- for this text's walks alone
set_option linter.unusedVariables false
set_option linter.unusedSimpArgs false
attribute [local go_sem high] eqA47
def annuitantlaw36_awake.f (k : Nat)  : Option (Bool) := (annuitantlaw36_two.f).bind fun bt152 => ((bank_Total.f k bt152.1 bt152.2.1 bt152.2.2.1).bind fun bt164 => ((bank_Write.f k bt152.1 bt152.2.1 bt152.2.2.1).bind fun bt166 => ((bank_WriteAnswer.f k bt152.2.2.2.1 bt152.2.2.2.2.1 bt152.2.2.2.2.2).bind fun bt168 => ((bank_Match.f k bt152.1 bt152.2.1 bt152.2.2.1 bt152.2.2.2.1 bt152.2.2.2.2.1 bt152.2.2.2.2.2).bind fun bt170 => ((bank_Write.f k 1 0 ([] : List (S47))).bind fun bt174 => (if bt164.2 = 0 then (if bt164.1 = 850 then (if bt166.2 = 0 then (if bt168.2 = 0 then (if (bt166.1.size : Int) = 81 then (if (bt168.1.size : Int) = 46 then (if 0 ≤ 63 then (if 63 ≤ (bt166.1.size : Int) then (if (bt166.1.extract 0 63).toList = ([80, 65, 89, 32, 55, 32, 49, 48, 48, 32, 50, 32, 56, 53, 48, 10, 111, 114, 100, 101, 114, 32, 51, 32, 53, 53, 32, 49, 48, 48, 48, 32, 50, 48, 48, 32, 56, 48, 48, 10, 111, 114, 100, 101, 114, 32, 52, 32, 53, 54, 32, 53, 48, 32, 48, 32, 53, 48, 10, 69, 78, 68, 32] : List UInt8) then (if 0 ≤ 28 then (if 28 ≤ (bt168.1.size : Int) then (if (bt168.1.extract 0 28).toList = ([66, 65, 67, 75, 32, 55, 32, 49, 48, 50, 32, 49, 10, 114, 101, 116, 117, 114, 110, 32, 52, 32, 50, 10, 69, 78, 68, 32] : List UInt8) then (if bt170.2 = 0 then (if (bt170.1.length : Int) = 1 then (if 0 < (bt170.1.length : Int) then (if 1 < (bt152.2.2.1.length : Int) then (if (((rd_T47 bt170.1 0).f0) == ((rd_T47 bt152.2.2.1 1).f0) && (((rd_T47 bt170.1 0).f1) == ((rd_T47 bt152.2.2.1 1).f1) && (((rd_T47 bt170.1 0).f2) == ((rd_T47 bt152.2.2.1 1).f2) && (((rd_T47 bt170.1 0).f3) == ((rd_T47 bt152.2.2.1 1).f3) && (((rd_T47 bt170.1 0).f4) == ((rd_T47 bt152.2.2.1 1).f4)))))) = true then (if bt174.2 = 0 then (some (bt174.1.toList == ([80, 65, 89, 32, 49, 32, 48, 32, 48, 32, 48, 10, 69, 78, 68, 32, 48, 48, 48, 48, 48, 50, 51, 53, 32, 48, 48, 48, 48, 48, 98, 100, 97, 10] : List UInt8))) else (none)) else (none)) else (none)) else (none)) else (none)) else (none)) else (some false)) else (none)) else (none)) else (none)) else (none)) else (none)) else (none)) else (none)) else (none)) else (none)) else (none)) else (none)))))))
set_option maxHeartbeats 8000000 in
set_option maxRecDepth 100000 in
theorem annuitantlaw36_awake.calls (k : Nat)  (r : Bool) (w : World) (hG : GG w) (h : annuitantlaw36_awake.f k  = some r) :
  Calls Tryz.prog 9 #[] w fun e w' => e = .returned (.bool r) ∧ Below w.heap.size w w' := by
 have hu27 := Tryz.underlying27; have hu30 := Tryz.underlying30; have hu47 := Tryz.underlying47; have HG := Aside0.mk hG; clear hG; have HB := Aside0.mk (Below.refl w.heap.size w); have H : ((annuitantlaw36_two.f).bind fun bt152 => ((bank_Total.f k bt152.1 bt152.2.1 bt152.2.2.1).bind fun bt164 => ((bank_Write.f k bt152.1 bt152.2.1 bt152.2.2.1).bind fun bt166 => ((bank_WriteAnswer.f k bt152.2.2.2.1 bt152.2.2.2.2.1 bt152.2.2.2.2.2).bind fun bt168 => ((bank_Match.f k bt152.1 bt152.2.1 bt152.2.2.1 bt152.2.2.2.1 bt152.2.2.2.2.1 bt152.2.2.2.2.2).bind fun bt170 => ((bank_Write.f k 1 0 ([] : List (S47))).bind fun bt174 => (if bt164.2 = 0 then (if bt164.1 = 850 then (if bt166.2 = 0 then (if bt168.2 = 0 then (if (bt166.1.size : Int) = 81 then (if (bt168.1.size : Int) = 46 then (if 0 ≤ 63 then (if 63 ≤ (bt166.1.size : Int) then (if (bt166.1.extract 0 63).toList = ([80, 65, 89, 32, 55, 32, 49, 48, 48, 32, 50, 32, 56, 53, 48, 10, 111, 114, 100, 101, 114, 32, 51, 32, 53, 53, 32, 49, 48, 48, 48, 32, 50, 48, 48, 32, 56, 48, 48, 10, 111, 114, 100, 101, 114, 32, 52, 32, 53, 54, 32, 53, 48, 32, 48, 32, 53, 48, 10, 69, 78, 68, 32] : List UInt8) then (if 0 ≤ 28 then (if 28 ≤ (bt168.1.size : Int) then (if (bt168.1.extract 0 28).toList = ([66, 65, 67, 75, 32, 55, 32, 49, 48, 50, 32, 49, 10, 114, 101, 116, 117, 114, 110, 32, 52, 32, 50, 10, 69, 78, 68, 32] : List UInt8) then (if bt170.2 = 0 then (if (bt170.1.length : Int) = 1 then (if 0 < (bt170.1.length : Int) then (if 1 < (bt152.2.2.1.length : Int) then (if (((rd_T47 bt170.1 0).f0) == ((rd_T47 bt152.2.2.1 1).f0) && (((rd_T47 bt170.1 0).f1) == ((rd_T47 bt152.2.2.1 1).f1) && (((rd_T47 bt170.1 0).f2) == ((rd_T47 bt152.2.2.1 1).f2) && (((rd_T47 bt170.1 0).f3) == ((rd_T47 bt152.2.2.1 1).f3) && (((rd_T47 bt170.1 0).f4) == ((rd_T47 bt152.2.2.1 1).f4)))))) = true then (if bt174.2 = 0 then (some (bt174.1.toList == ([80, 65, 89, 32, 49, 32, 48, 32, 48, 32, 48, 10, 69, 78, 68, 32, 48, 48, 48, 48, 48, 50, 51, 53, 32, 48, 48, 48, 48, 48, 98, 100, 97, 10] : List UInt8))) else (none)) else (none)) else (none)) else (none)) else (none)) else (none)) else (some false)) else (none)) else (none)) else (none)) else (none)) else (none)) else (none)) else (none)) else (none)) else (none)) else (none)) else (none)))))))) = some r := h; clear h; replace H := Option.bind_eq_some_iff.mp H; obtain ⟨⟨t152, t153, t154, t157, t158, t159⟩, A10, H⟩ := H; replace H : ((bank_Total.f k t152 t153 t154).bind fun bt164 => ((bank_Write.f k t152 t153 t154).bind fun bt166 => ((bank_WriteAnswer.f k t157 t158 t159).bind fun bt168 => ((bank_Match.f k t152 t153 t154 t157 t158 t159).bind fun bt170 => ((bank_Write.f k 1 0 ([] : List (S47))).bind fun bt174 => (if bt164.2 = 0 then (if bt164.1 = 850 then (if bt166.2 = 0 then (if bt168.2 = 0 then (if (bt166.1.size : Int) = 81 then (if (bt168.1.size : Int) = 46 then (if 0 ≤ 63 then (if 63 ≤ (bt166.1.size : Int) then (if (bt166.1.extract 0 63).toList = ([80, 65, 89, 32, 55, 32, 49, 48, 48, 32, 50, 32, 56, 53, 48, 10, 111, 114, 100, 101, 114, 32, 51, 32, 53, 53, 32, 49, 48, 48, 48, 32, 50, 48, 48, 32, 56, 48, 48, 10, 111, 114, 100, 101, 114, 32, 52, 32, 53, 54, 32, 53, 48, 32, 48, 32, 53, 48, 10, 69, 78, 68, 32] : List UInt8) then (if 0 ≤ 28 then (if 28 ≤ (bt168.1.size : Int) then (if (bt168.1.extract 0 28).toList = ([66, 65, 67, 75, 32, 55, 32, 49, 48, 50, 32, 49, 10, 114, 101, 116, 117, 114, 110, 32, 52, 32, 50, 10, 69, 78, 68, 32] : List UInt8) then (if bt170.2 = 0 then (if (bt170.1.length : Int) = 1 then (if 0 < (bt170.1.length : Int) then (if 1 < (t154.length : Int) then (if (((rd_T47 bt170.1 0).f0) == ((rd_T47 t154 1).f0) && (((rd_T47 bt170.1 0).f1) == ((rd_T47 t154 1).f1) && (((rd_T47 bt170.1 0).f2) == ((rd_T47 t154 1).f2) && (((rd_T47 bt170.1 0).f3) == ((rd_T47 t154 1).f3) && (((rd_T47 bt170.1 0).f4) == ((rd_T47 t154 1).f4)))))) = true then (if bt174.2 = 0 then (some (bt174.1.toList == ([80, 65, 89, 32, 49, 32, 48, 32, 48, 32, 48, 10, 69, 78, 68, 32, 48, 48, 48, 48, 48, 50, 51, 53, 32, 48, 48, 48, 48, 48, 98, 100, 97, 10] : List UInt8))) else (none)) else (none)) else (none)) else (none)) else (none)) else (none)) else (some false)) else (none)) else (none)) else (none)) else (none)) else (none)) else (none)) else (none)) else (none)) else (none)) else (none)) else (none))))))) = some r := H; have A1 := Aside0.mk A10; clear A10; replace H := Option.bind_eq_some_iff.mp H; obtain ⟨⟨t164, t165⟩, A20, H⟩ := H; replace H : ((bank_Write.f k t152 t153 t154).bind fun bt166 => ((bank_WriteAnswer.f k t157 t158 t159).bind fun bt168 => ((bank_Match.f k t152 t153 t154 t157 t158 t159).bind fun bt170 => ((bank_Write.f k 1 0 ([] : List (S47))).bind fun bt174 => (if t165 = 0 then (if t164 = 850 then (if bt166.2 = 0 then (if bt168.2 = 0 then (if (bt166.1.size : Int) = 81 then (if (bt168.1.size : Int) = 46 then (if 0 ≤ 63 then (if 63 ≤ (bt166.1.size : Int) then (if (bt166.1.extract 0 63).toList = ([80, 65, 89, 32, 55, 32, 49, 48, 48, 32, 50, 32, 56, 53, 48, 10, 111, 114, 100, 101, 114, 32, 51, 32, 53, 53, 32, 49, 48, 48, 48, 32, 50, 48, 48, 32, 56, 48, 48, 10, 111, 114, 100, 101, 114, 32, 52, 32, 53, 54, 32, 53, 48, 32, 48, 32, 53, 48, 10, 69, 78, 68, 32] : List UInt8) then (if 0 ≤ 28 then (if 28 ≤ (bt168.1.size : Int) then (if (bt168.1.extract 0 28).toList = ([66, 65, 67, 75, 32, 55, 32, 49, 48, 50, 32, 49, 10, 114, 101, 116, 117, 114, 110, 32, 52, 32, 50, 10, 69, 78, 68, 32] : List UInt8) then (if bt170.2 = 0 then (if (bt170.1.length : Int) = 1 then (if 0 < (bt170.1.length : Int) then (if 1 < (t154.length : Int) then (if (((rd_T47 bt170.1 0).f0) == ((rd_T47 t154 1).f0) && (((rd_T47 bt170.1 0).f1) == ((rd_T47 t154 1).f1) && (((rd_T47 bt170.1 0).f2) == ((rd_T47 t154 1).f2) && (((rd_T47 bt170.1 0).f3) == ((rd_T47 t154 1).f3) && (((rd_T47 bt170.1 0).f4) == ((rd_T47 t154 1).f4)))))) = true then (if bt174.2 = 0 then (some (bt174.1.toList == ([80, 65, 89, 32, 49, 32, 48, 32, 48, 32, 48, 10, 69, 78, 68, 32, 48, 48, 48, 48, 48, 50, 51, 53, 32, 48, 48, 48, 48, 48, 98, 100, 97, 10] : List UInt8))) else (none)) else (none)) else (none)) else (none)) else (none)) else (none)) else (some false)) else (none)) else (none)) else (none)) else (none)) else (none)) else (none)) else (none)) else (none)) else (none)) else (none)) else (none)))))) = some r := H; have A2 := Aside0.mk A20; clear A20; replace H := Option.bind_eq_some_iff.mp H; obtain ⟨⟨t166, t167⟩, A30, H⟩ := H; replace H : ((bank_WriteAnswer.f k t157 t158 t159).bind fun bt168 => ((bank_Match.f k t152 t153 t154 t157 t158 t159).bind fun bt170 => ((bank_Write.f k 1 0 ([] : List (S47))).bind fun bt174 => (if t165 = 0 then (if t164 = 850 then (if t167 = 0 then (if bt168.2 = 0 then (if (t166.size : Int) = 81 then (if (bt168.1.size : Int) = 46 then (if 0 ≤ 63 then (if 63 ≤ (t166.size : Int) then (if (t166.extract 0 63).toList = ([80, 65, 89, 32, 55, 32, 49, 48, 48, 32, 50, 32, 56, 53, 48, 10, 111, 114, 100, 101, 114, 32, 51, 32, 53, 53, 32, 49, 48, 48, 48, 32, 50, 48, 48, 32, 56, 48, 48, 10, 111, 114, 100, 101, 114, 32, 52, 32, 53, 54, 32, 53, 48, 32, 48, 32, 53, 48, 10, 69, 78, 68, 32] : List UInt8) then (if 0 ≤ 28 then (if 28 ≤ (bt168.1.size : Int) then (if (bt168.1.extract 0 28).toList = ([66, 65, 67, 75, 32, 55, 32, 49, 48, 50, 32, 49, 10, 114, 101, 116, 117, 114, 110, 32, 52, 32, 50, 10, 69, 78, 68, 32] : List UInt8) then (if bt170.2 = 0 then (if (bt170.1.length : Int) = 1 then (if 0 < (bt170.1.length : Int) then (if 1 < (t154.length : Int) then (if (((rd_T47 bt170.1 0).f0) == ((rd_T47 t154 1).f0) && (((rd_T47 bt170.1 0).f1) == ((rd_T47 t154 1).f1) && (((rd_T47 bt170.1 0).f2) == ((rd_T47 t154 1).f2) && (((rd_T47 bt170.1 0).f3) == ((rd_T47 t154 1).f3) && (((rd_T47 bt170.1 0).f4) == ((rd_T47 t154 1).f4)))))) = true then (if bt174.2 = 0 then (some (bt174.1.toList == ([80, 65, 89, 32, 49, 32, 48, 32, 48, 32, 48, 10, 69, 78, 68, 32, 48, 48, 48, 48, 48, 50, 51, 53, 32, 48, 48, 48, 48, 48, 98, 100, 97, 10] : List UInt8))) else (none)) else (none)) else (none)) else (none)) else (none)) else (none)) else (some false)) else (none)) else (none)) else (none)) else (none)) else (none)) else (none)) else (none)) else (none)) else (none)) else (none)) else (none))))) = some r := H; have A3 := Aside0.mk A30; clear A30; replace H := Option.bind_eq_some_iff.mp H; obtain ⟨⟨t168, t169⟩, A40, H⟩ := H; replace H : ((bank_Match.f k t152 t153 t154 t157 t158 t159).bind fun bt170 => ((bank_Write.f k 1 0 ([] : List (S47))).bind fun bt174 => (if t165 = 0 then (if t164 = 850 then (if t167 = 0 then (if t169 = 0 then (if (t166.size : Int) = 81 then (if (t168.size : Int) = 46 then (if 0 ≤ 63 then (if 63 ≤ (t166.size : Int) then (if (t166.extract 0 63).toList = ([80, 65, 89, 32, 55, 32, 49, 48, 48, 32, 50, 32, 56, 53, 48, 10, 111, 114, 100, 101, 114, 32, 51, 32, 53, 53, 32, 49, 48, 48, 48, 32, 50, 48, 48, 32, 56, 48, 48, 10, 111, 114, 100, 101, 114, 32, 52, 32, 53, 54, 32, 53, 48, 32, 48, 32, 53, 48, 10, 69, 78, 68, 32] : List UInt8) then (if 0 ≤ 28 then (if 28 ≤ (t168.size : Int) then (if (t168.extract 0 28).toList = ([66, 65, 67, 75, 32, 55, 32, 49, 48, 50, 32, 49, 10, 114, 101, 116, 117, 114, 110, 32, 52, 32, 50, 10, 69, 78, 68, 32] : List UInt8) then (if bt170.2 = 0 then (if (bt170.1.length : Int) = 1 then (if 0 < (bt170.1.length : Int) then (if 1 < (t154.length : Int) then (if (((rd_T47 bt170.1 0).f0) == ((rd_T47 t154 1).f0) && (((rd_T47 bt170.1 0).f1) == ((rd_T47 t154 1).f1) && (((rd_T47 bt170.1 0).f2) == ((rd_T47 t154 1).f2) && (((rd_T47 bt170.1 0).f3) == ((rd_T47 t154 1).f3) && (((rd_T47 bt170.1 0).f4) == ((rd_T47 t154 1).f4)))))) = true then (if bt174.2 = 0 then (some (bt174.1.toList == ([80, 65, 89, 32, 49, 32, 48, 32, 48, 32, 48, 10, 69, 78, 68, 32, 48, 48, 48, 48, 48, 50, 51, 53, 32, 48, 48, 48, 48, 48, 98, 100, 97, 10] : List UInt8))) else (none)) else (none)) else (none)) else (none)) else (none)) else (none)) else (some false)) else (none)) else (none)) else (none)) else (none)) else (none)) else (none)) else (none)) else (none)) else (none)) else (none)) else (none)))) = some r := H; have A4 := Aside0.mk A40; clear A40; replace H := Option.bind_eq_some_iff.mp H; obtain ⟨⟨t170, t173⟩, A50, H⟩ := H; replace H : ((bank_Write.f k 1 0 ([] : List (S47))).bind fun bt174 => (if t165 = 0 then (if t164 = 850 then (if t167 = 0 then (if t169 = 0 then (if (t166.size : Int) = 81 then (if (t168.size : Int) = 46 then (if 0 ≤ 63 then (if 63 ≤ (t166.size : Int) then (if (t166.extract 0 63).toList = ([80, 65, 89, 32, 55, 32, 49, 48, 48, 32, 50, 32, 56, 53, 48, 10, 111, 114, 100, 101, 114, 32, 51, 32, 53, 53, 32, 49, 48, 48, 48, 32, 50, 48, 48, 32, 56, 48, 48, 10, 111, 114, 100, 101, 114, 32, 52, 32, 53, 54, 32, 53, 48, 32, 48, 32, 53, 48, 10, 69, 78, 68, 32] : List UInt8) then (if 0 ≤ 28 then (if 28 ≤ (t168.size : Int) then (if (t168.extract 0 28).toList = ([66, 65, 67, 75, 32, 55, 32, 49, 48, 50, 32, 49, 10, 114, 101, 116, 117, 114, 110, 32, 52, 32, 50, 10, 69, 78, 68, 32] : List UInt8) then (if t173 = 0 then (if (t170.length : Int) = 1 then (if 0 < (t170.length : Int) then (if 1 < (t154.length : Int) then (if (((rd_T47 t170 0).f0) == ((rd_T47 t154 1).f0) && (((rd_T47 t170 0).f1) == ((rd_T47 t154 1).f1) && (((rd_T47 t170 0).f2) == ((rd_T47 t154 1).f2) && (((rd_T47 t170 0).f3) == ((rd_T47 t154 1).f3) && (((rd_T47 t170 0).f4) == ((rd_T47 t154 1).f4)))))) = true then (if bt174.2 = 0 then (some (bt174.1.toList == ([80, 65, 89, 32, 49, 32, 48, 32, 48, 32, 48, 10, 69, 78, 68, 32, 48, 48, 48, 48, 48, 50, 51, 53, 32, 48, 48, 48, 48, 48, 98, 100, 97, 10] : List UInt8))) else (none)) else (none)) else (none)) else (none)) else (none)) else (none)) else (some false)) else (none)) else (none)) else (none)) else (none)) else (none)) else (none)) else (none)) else (none)) else (none)) else (none)) else (none))) = some r := H; have A5 := Aside0.mk A50; clear A50; replace H := Option.bind_eq_some_iff.mp H; obtain ⟨⟨t174, t175⟩, A60, H⟩ := H; replace H : (if t165 = 0 then (if t164 = 850 then (if t167 = 0 then (if t169 = 0 then (if (t166.size : Int) = 81 then (if (t168.size : Int) = 46 then (if 0 ≤ 63 then (if 63 ≤ (t166.size : Int) then (if (t166.extract 0 63).toList = ([80, 65, 89, 32, 55, 32, 49, 48, 48, 32, 50, 32, 56, 53, 48, 10, 111, 114, 100, 101, 114, 32, 51, 32, 53, 53, 32, 49, 48, 48, 48, 32, 50, 48, 48, 32, 56, 48, 48, 10, 111, 114, 100, 101, 114, 32, 52, 32, 53, 54, 32, 53, 48, 32, 48, 32, 53, 48, 10, 69, 78, 68, 32] : List UInt8) then (if 0 ≤ 28 then (if 28 ≤ (t168.size : Int) then (if (t168.extract 0 28).toList = ([66, 65, 67, 75, 32, 55, 32, 49, 48, 50, 32, 49, 10, 114, 101, 116, 117, 114, 110, 32, 52, 32, 50, 10, 69, 78, 68, 32] : List UInt8) then (if t173 = 0 then (if (t170.length : Int) = 1 then (if 0 < (t170.length : Int) then (if 1 < (t154.length : Int) then (if (((rd_T47 t170 0).f0) == ((rd_T47 t154 1).f0) && (((rd_T47 t170 0).f1) == ((rd_T47 t154 1).f1) && (((rd_T47 t170 0).f2) == ((rd_T47 t154 1).f2) && (((rd_T47 t170 0).f3) == ((rd_T47 t154 1).f3) && (((rd_T47 t170 0).f4) == ((rd_T47 t154 1).f4)))))) = true then (if t175 = 0 then (some (t174.toList == ([80, 65, 89, 32, 49, 32, 48, 32, 48, 32, 48, 10, 69, 78, 68, 32, 48, 48, 48, 48, 48, 50, 51, 53, 32, 48, 48, 48, 48, 48, 98, 100, 97, 10] : List UInt8))) else (none)) else (none)) else (none)) else (none)) else (none)) else (none)) else (some false)) else (none)) else (none)) else (none)) else (none)) else (none)) else (none)) else (none)) else (none)) else (none)) else (none)) else (none)) = some r := H; have A6 := Aside0.mk A60; clear A60
 by_cases c7 : t165 = 0
 ·
  rw [if_pos c7] at H
  have c7b0 : (t165 == 0) = true := beq_iff_eq.mpr c7; have c7b1 : (t165 != 0) = false := bne_eq_false_iff_eq.mpr c7; clear c7
  by_cases c8 : t164 = 850
  ·
   rw [if_pos c8] at H
   have c8b0 : (t164 == 850) = true := beq_iff_eq.mpr c8; have c8b1 : (t164 != 850) = false := bne_eq_false_iff_eq.mpr c8; clear c8
   by_cases c9 : t167 = 0
   ·
    rw [if_pos c9] at H
    have c9b0 : (t167 == 0) = true := beq_iff_eq.mpr c9; have c9b1 : (t167 != 0) = false := bne_eq_false_iff_eq.mpr c9; clear c9
    by_cases c10 : t169 = 0
    ·
     rw [if_pos c10] at H
     have c10b0 : (t169 == 0) = true := beq_iff_eq.mpr c10; have c10b1 : (t169 != 0) = false := bne_eq_false_iff_eq.mpr c10; clear c10
     by_cases c11 : (t166.size : Int) = 81
     ·
      rw [if_pos c11] at H
      have c11b0 : ((t166.size : Int) == 81) = true := beq_iff_eq.mpr c11; have c11b1 : ((t166.size : Int) != 81) = false := bne_eq_false_iff_eq.mpr c11; clear c11
      by_cases c12 : (t168.size : Int) = 46
      ·
       rw [if_pos c12] at H
       have c12b0 : ((t168.size : Int) == 46) = true := beq_iff_eq.mpr c12; have c12b1 : ((t168.size : Int) != 46) = false := bne_eq_false_iff_eq.mpr c12; clear c12
       by_cases c13 : 0 ≤ 63
       ·
        rw [if_pos c13] at H
        have c13b0 := eq_true c13; have c13b1 : decide (0 ≤ 63) = true := decide_eq_true c13; clear c13
        by_cases c14 : 63 ≤ (t166.size : Int)
        ·
         rw [if_pos c14] at H
         have c14b0 := eq_true c14; have c14b1 : decide (63 ≤ (t166.size : Int)) = true := decide_eq_true c14; clear c14
         by_cases c15 : (t166.extract 0 63).toList = ([80, 65, 89, 32, 55, 32, 49, 48, 48, 32, 50, 32, 56, 53, 48, 10, 111, 114, 100, 101, 114, 32, 51, 32, 53, 53, 32, 49, 48, 48, 48, 32, 50, 48, 48, 32, 56, 48, 48, 10, 111, 114, 100, 101, 114, 32, 52, 32, 53, 54, 32, 53, 48, 32, 48, 32, 53, 48, 10, 69, 78, 68, 32] : List UInt8)
         ·
          rw [if_pos c15] at H
          have c15b0 : ((t166.extract 0 63).toList == ([80, 65, 89, 32, 55, 32, 49, 48, 48, 32, 50, 32, 56, 53, 48, 10, 111, 114, 100, 101, 114, 32, 51, 32, 53, 53, 32, 49, 48, 48, 48, 32, 50, 48, 48, 32, 56, 48, 48, 10, 111, 114, 100, 101, 114, 32, 52, 32, 53, 54, 32, 53, 48, 32, 48, 32, 53, 48, 10, 69, 78, 68, 32] : List UInt8)) = true := beq_iff_eq.mpr c15; have c15b1 : ((t166.extract 0 63).toList != ([80, 65, 89, 32, 55, 32, 49, 48, 48, 32, 50, 32, 56, 53, 48, 10, 111, 114, 100, 101, 114, 32, 51, 32, 53, 53, 32, 49, 48, 48, 48, 32, 50, 48, 48, 32, 56, 48, 48, 10, 111, 114, 100, 101, 114, 32, 52, 32, 53, 54, 32, 53, 48, 32, 48, 32, 53, 48, 10, 69, 78, 68, 32] : List UInt8)) = false := bne_eq_false_iff_eq.mpr c15; clear c15
          by_cases c16 : 0 ≤ 28
          ·
           rw [if_pos c16] at H
           have c16b0 := eq_true c16; have c16b1 : decide (0 ≤ 28) = true := decide_eq_true c16; clear c16
           by_cases c17 : 28 ≤ (t168.size : Int)
           ·
            rw [if_pos c17] at H
            have c17b0 := eq_true c17; have c17b1 : decide (28 ≤ (t168.size : Int)) = true := decide_eq_true c17; clear c17
            by_cases c18 : (t168.extract 0 28).toList = ([66, 65, 67, 75, 32, 55, 32, 49, 48, 50, 32, 49, 10, 114, 101, 116, 117, 114, 110, 32, 52, 32, 50, 10, 69, 78, 68, 32] : List UInt8)
            ·
             rw [if_pos c18] at H
             have c18b0 : ((t168.extract 0 28).toList == ([66, 65, 67, 75, 32, 55, 32, 49, 48, 50, 32, 49, 10, 114, 101, 116, 117, 114, 110, 32, 52, 32, 50, 10, 69, 78, 68, 32] : List UInt8)) = true := beq_iff_eq.mpr c18; have c18b1 : ((t168.extract 0 28).toList != ([66, 65, 67, 75, 32, 55, 32, 49, 48, 50, 32, 49, 10, 114, 101, 116, 117, 114, 110, 32, 52, 32, 50, 10, 69, 78, 68, 32] : List UInt8)) = false := bne_eq_false_iff_eq.mpr c18; clear c18
             by_cases c19 : t173 = 0
             ·
              rw [if_pos c19] at H
              have c19b0 : (t173 == 0) = true := beq_iff_eq.mpr c19; have c19b1 : (t173 != 0) = false := bne_eq_false_iff_eq.mpr c19; clear c19
              by_cases c20 : (t170.length : Int) = 1
              ·
               rw [if_pos c20] at H
               have c20b0 : ((t170.length : Int) == 1) = true := beq_iff_eq.mpr c20; have c20b1 : ((t170.length : Int) != 1) = false := bne_eq_false_iff_eq.mpr c20; clear c20
               by_cases c21 : 0 < (t170.length : Int)
               ·
                rw [if_pos c21] at H
                have c21b0 : decide (0 < (t170.length : Int)) = true := decide_eq_true c21; have c21b1 : decide (0 < t170.length) = true := decide_eq_true (by omega); clear c21
                by_cases c22 : 1 < (t154.length : Int)
                ·
                 rw [if_pos c22] at H
                 have c22b0 : decide (1 < (t154.length : Int)) = true := decide_eq_true c22; have c22b1 : decide (1 < t154.length) = true := decide_eq_true (by omega); clear c22
                 by_cases c23 : (((rd_T47 t170 0).f0) == ((rd_T47 t154 1).f0) && (((rd_T47 t170 0).f1) == ((rd_T47 t154 1).f1) && (((rd_T47 t170 0).f2) == ((rd_T47 t154 1).f2) && (((rd_T47 t170 0).f3) == ((rd_T47 t154 1).f3) && (((rd_T47 t170 0).f4) == ((rd_T47 t154 1).f4)))))) = true
                 ·
                  rw [if_pos c23] at H
                  have c23b0 : (((rd_T47 t170 0).f0) == ((rd_T47 t154 1).f0) && (((rd_T47 t170 0).f1) == ((rd_T47 t154 1).f1) && (((rd_T47 t170 0).f2) == ((rd_T47 t154 1).f2) && (((rd_T47 t170 0).f3) == ((rd_T47 t154 1).f3) && (((rd_T47 t170 0).f4) == ((rd_T47 t154 1).f4)))))) = true := c23
                  (try (have c23b1 : decide (((rd_T47 t170 0).f0) = ((rd_T47 t154 1).f0) && (((rd_T47 t170 0).f1) == ((rd_T47 t154 1).f1) && (((rd_T47 t170 0).f2) == ((rd_T47 t154 1).f2) && (((rd_T47 t170 0).f3) == ((rd_T47 t154 1).f3) && (((rd_T47 t170 0).f4) == ((rd_T47 t154 1).f4)))))) = true := by simpa using c23))
                  (try (have c23b2 : (((rd_T47 t170 0).f0) == ((rd_T47 t154 1).f0) && (((rd_T47 t170 0).f1) == ((rd_T47 t154 1).f1) && (((rd_T47 t170 0).f2) == ((rd_T47 t154 1).f2) && (((rd_T47 t170 0).f3) == ((rd_T47 t154 1).f3) && (((rd_T47 t170 0).f4) == ((rd_T47 t154 1).f4)))))) = true := by simpa using c23))
                  clear c23
                  by_cases c24 : t175 = 0
                  ·
                   rw [if_pos c24] at H
                   have c24b0 : (t175 == 0) = true := beq_iff_eq.mpr c24; have c24b1 : (t175 != 0) = false := bne_eq_false_iff_eq.mpr c24; clear c24; obtain rfl := Option.some.inj H
                   go_enter Tryz.func9, Tryz.ntmps9
                   go_wp2_with (first | (go_at_call 12; (with_reducible refine (annuitantlaw36_two.calls  t152 t153 t154 t157 t158 t159 _ A1.out).mono ?_); rintro e w25 ⟨v155, v160, rfl, ho0, ho1, hb⟩; have HO156 := Aside0.mk (Kd.R_lower ho0 (below_size zB)); have HO161 := Aside0.mk (Kd.R_lower ho1 (below_size zB)); replace HB := zBs hb; (try clear hb); (try clear hb2); (try clear hk); (try clear hi); (try clear ho0); (try clear ho1)) | ((with_reducible refine gate_dst (N := 1) rfl ?_); (try (refine gate_guard (by rfl) ?_; dsimp only)); refine box_event ?hg (N := 1) ?hd (cs := #[.int .i64 0, .int .i64 0, .slice none 0 0]) (t := 27) ?hr ?_; (case hd => rfl); (case hg => rfl); (case hr => first | (go_simp; done) | (go_simp; rfl)); intro gb162 hg w26 hbox hb; replace HO156 := Aside0.mk (Kd.R_below (zR HO156) hb); replace HO161 := Aside0.mk (Kd.R_below (zR HO161) hb); have BK162 := Aside0.mk (hbox); have GW162 := zG (w := w) hg; have GE162 := zG (w := w) hg; replace HB := zBs hb; clear hb hbox hg) | ((with_reducible refine gate_dst (N := 2) rfl ?_); (try (refine gate_guard (by rfl) ?_; dsimp only)); refine box_event ?hg (N := 2) ?hd (cs := #[.int .i64 0, .int .i64 0, .slice none 0 0]) (t := 30) ?hr ?_; (case hd => rfl); (case hg => rfl); (case hr => first | (go_simp; done) | (go_simp; rfl)); intro gb163 hg w27 hbox hb; replace HO156 := Aside0.mk (Kd.R_below (zR HO156) hb); replace HO161 := Aside0.mk (Kd.R_below (zR HO161) hb); have BK163 := Aside0.mk (hbox); have GW163 := zG (w := w) hg; have GE163 := zG (w := w) hg; replace HB := zBs hb; have NB162_163 := zN hg (zK BK162); have NB163_162 := zM hg (zK BK162); replace BK162 := zKb BK162 hb; clear hb hbox hg; have hnb28 := NB162_163.out; have hnc28 := NB163_162.out; obtain ⟨hcz29_0, hcz29_1, hcz29_2⟩ := zC3 BK162; obtain ⟨hfz29_0, hfz29_1, hfz29_2⟩ := zZ3 BK162; obtain ⟨Ao30, co30, eo30⟩ := Kd.R_slice HO156.out; subst eo30; obtain ⟨hcz31_0, hcz31_1, hcz31_2⟩ := zC3 BK163; obtain ⟨hfz31_0, hfz31_1, hfz31_2⟩ := zZ3 BK163; obtain ⟨Ao32, co32, eo32⟩ := Kd.R_slice HO161.out; subst eo32) | (go_at_call 26; (with_reducible refine (bank_Total.calls k t152 t153 _ _ t154 t164 t165 _ ?side1 ?side2 A2.out).mono ?_); (case side1 => refine (Kd.R_reads' (e := 47) (base := w.heap.size) (ok := fun k_ => True) (n := t154.length) (c := co30) ?_).2.2; exact (by (with_reducible repeat (first | apply Kd.R_alloc | apply Kd.R_drewN | apply Kd.R_drew)); exact (Kd.R_mono (Kd.R_mono (Kd.R_far (p := ⟨gb163, 2, none⟩) (Kd.R_far (p := ⟨gb163, 1, none⟩) (Kd.R_far (p := ⟨gb163, 0, none⟩) (Kd.R_far (p := ⟨gb162, 2, none⟩) (Kd.R_far (p := ⟨gb162, 1, none⟩) (Kd.R_far (p := ⟨gb162, 0, none⟩) (Kd.R_types (Kd.R_types HO156.out BK162.out (by decide)) BK163.out (by decide)) (fun _ hk => hk.1.2) (.int .i64 t152)) (fun _ hk => hk.1.2) (.int .i64 t153)) (fun _ hk => hk.1.2) (.slice Ao30 t154.length co30)) (fun _ hk => hk.2) (.int .i64 t157)) (fun _ hk => hk.2) (.int .i64 t158)) (fun _ hk => hk.2) (.slice Ao32 t159.length co32)) (fun _ h_ => h_.1)) (fun _ h_ => h_.1)))); (case side2 => exact (Kd.R_reads' HO156.out).2.1); rintro e w33 ⟨rfl, hb⟩; replace HO156 := Aside0.mk (Kd.R_below (by (with_reducible repeat (first | apply Kd.R_alloc | apply Kd.R_drewN | apply Kd.R_drew)); exact (Kd.R_mono (Kd.R_mono (Kd.R_far (p := ⟨gb163, 2, none⟩) (Kd.R_far (p := ⟨gb163, 1, none⟩) (Kd.R_far (p := ⟨gb163, 0, none⟩) (Kd.R_far (p := ⟨gb162, 2, none⟩) (Kd.R_far (p := ⟨gb162, 1, none⟩) (Kd.R_far (p := ⟨gb162, 0, none⟩) (Kd.R_types (Kd.R_types HO156.out BK162.out (by decide)) BK163.out (by decide)) (fun _ hk => hk.1.2) (.int .i64 t152)) (fun _ hk => hk.1.2) (.int .i64 t153)) (fun _ hk => hk.1.2) (.slice Ao30 t154.length co30)) (fun _ hk => hk.2) (.int .i64 t157)) (fun _ hk => hk.2) (.int .i64 t158)) (fun _ hk => hk.2) (.slice Ao32 t159.length co32)) (fun _ h_ => h_.1)) (fun _ h_ => h_.1))) hb); replace HO161 := Aside0.mk (Kd.R_below (by (with_reducible repeat (first | apply Kd.R_alloc | apply Kd.R_drewN | apply Kd.R_drew)); exact (Kd.R_mono (Kd.R_mono (Kd.R_far (p := ⟨gb163, 2, none⟩) (Kd.R_far (p := ⟨gb163, 1, none⟩) (Kd.R_far (p := ⟨gb163, 0, none⟩) (Kd.R_far (p := ⟨gb162, 2, none⟩) (Kd.R_far (p := ⟨gb162, 1, none⟩) (Kd.R_far (p := ⟨gb162, 0, none⟩) (Kd.R_types (Kd.R_types HO161.out BK162.out (by decide)) BK163.out (by decide)) (fun _ hk => hk.1.2) (.int .i64 t152)) (fun _ hk => hk.1.2) (.int .i64 t153)) (fun _ hk => hk.1.2) (.slice Ao30 t154.length co30)) (fun _ hk => hk.2) (.int .i64 t157)) (fun _ hk => hk.2) (.int .i64 t158)) (fun _ hk => hk.2) (.slice Ao32 t159.length co32)) (fun _ h_ => h_.1)) (fun _ h_ => h_.1))) hb); replace BK162 := Aside0.mk (blk_below (g := gb162) (o := .cells #[.int .i64 t152, .int .i64 t153, .slice Ao30 t154.length co30] 27 (0, 0)) (by (with_reducible repeat (first | apply blk_drewN | apply blk_drew | apply blk_alloc)); refine blk_far ?_ NB162_163.out _; (with_reducible repeat (first | apply blk_drewN | apply blk_drew | apply blk_alloc)); refine blk_far ?_ NB162_163.out _; (with_reducible repeat (first | apply blk_drewN | apply blk_drew | apply blk_alloc)); refine blk_far ?_ NB162_163.out _; (with_reducible repeat (first | apply blk_drewN | apply blk_drew | apply blk_alloc)); refine blk_put (cs := #[.int .i64 t152, .int .i64 t153, .slice none 0 0]) ?_ 2 _ rfl; (with_reducible repeat (first | apply blk_drewN | apply blk_drew | apply blk_alloc)); refine blk_put (cs := #[.int .i64 t152, .int .i64 0, .slice none 0 0]) ?_ 1 _ rfl; (with_reducible repeat (first | apply blk_drewN | apply blk_drew | apply blk_alloc)); refine blk_put (cs := #[.int .i64 0, .int .i64 0, .slice none 0 0]) ?_ 0 _ rfl; (with_reducible repeat (first | apply blk_drewN | apply blk_drew | apply blk_alloc)); exact BK162.out) hb); replace BK163 := Aside0.mk (blk_below (g := gb163) (o := .cells #[.int .i64 t157, .int .i64 t158, .slice Ao32 t159.length co32] 30 (0, 0)) (by (with_reducible repeat (first | apply blk_drewN | apply blk_drew | apply blk_alloc)); refine blk_put (cs := #[.int .i64 t157, .int .i64 t158, .slice none 0 0]) ?_ 2 _ rfl; (with_reducible repeat (first | apply blk_drewN | apply blk_drew | apply blk_alloc)); refine blk_put (cs := #[.int .i64 t157, .int .i64 0, .slice none 0 0]) ?_ 1 _ rfl; (with_reducible repeat (first | apply blk_drewN | apply blk_drew | apply blk_alloc)); refine blk_put (cs := #[.int .i64 0, .int .i64 0, .slice none 0 0]) ?_ 0 _ rfl; (with_reducible repeat (first | apply blk_drewN | apply blk_drew | apply blk_alloc)); refine blk_far ?_ NB163_162.out _; (with_reducible repeat (first | apply blk_drewN | apply blk_drew | apply blk_alloc)); refine blk_far ?_ NB163_162.out _; (with_reducible repeat (first | apply blk_drewN | apply blk_drew | apply blk_alloc)); refine blk_far ?_ NB163_162.out _; (with_reducible repeat (first | apply blk_drewN | apply blk_drew | apply blk_alloc)); exact BK163.out) hb); replace HB := zBs hb; (try clear hb); (try clear hb2); (try clear hk); (try clear hi); obtain ⟨hcz34_0, hcz34_1, hcz34_2⟩ := zC3 BK162; obtain ⟨hfz34_0, hfz34_1, hfz34_2⟩ := zZ3 BK162) | (go_at_call 23; (with_reducible refine (bank_Write.calls k t152 t153 _ _ t154 t166 t167 _ ?side1 ?side2 ?side3 A3.out).mono ?_); (case side1 => repeat (first | exact (Kd.R_reads' HO156.out).2.2 | (with_reducible refine Kd.C_alloc ?_ _) | (with_reducible refine Kd.C_drewN ?_ _) | (with_reducible refine Kd.C_drew ?_))); (case side2 => exact (Kd.R_reads' HO156.out).2.1); (case side3 => exact GG.below HG.out zB); rintro e w35 ⟨rfl, hb⟩; replace HO156 := Aside0.mk (Kd.R_below (zR HO156) hb); replace HO161 := Aside0.mk (Kd.R_below (zR HO161) hb); replace BK162 := zKb BK162 hb; replace BK163 := zKb BK163 hb; replace HB := zBs hb; (try clear hb); (try clear hb2); (try clear hk); (try clear hi); obtain ⟨hcz36_0, hcz36_1, hcz36_2⟩ := zC3 BK163; obtain ⟨hfz36_0, hfz36_1, hfz36_2⟩ := zZ3 BK163) | (go_at_call 29; (with_reducible refine (bank_WriteAnswer.calls k t157 t158 _ _ t159 t168 t169 _ ?side1 ?side2 ?side3 A4.out).mono ?_); (case side1 => repeat (first | exact (Kd.R_reads' HO161.out).2.2 | (with_reducible refine Kd.C_alloc ?_ _) | (with_reducible refine Kd.C_drewN ?_ _) | (with_reducible refine Kd.C_drew ?_))); (case side2 => exact (Kd.R_reads' HO161.out).2.1); (case side3 => exact GG.below HG.out zB); rintro e w37 ⟨rfl, hb⟩; replace HO156 := Aside0.mk (Kd.R_below (zR HO156) hb); replace HO161 := Aside0.mk (Kd.R_below (zR HO161) hb); replace BK162 := zKb BK162 hb; replace BK163 := zKb BK163 hb; replace HB := zBs hb; (try clear hb); (try clear hb2); (try clear hk); (try clear hi); obtain ⟨hcz38_0, hcz38_1, hcz38_2⟩ := zC3 BK162; obtain ⟨hfz38_0, hfz38_1, hfz38_2⟩ := zZ3 BK162; obtain ⟨hcz39_0, hcz39_1, hcz39_2⟩ := zC3 BK163; obtain ⟨hfz39_0, hfz39_1, hfz39_2⟩ := zZ3 BK163) | (go_at_call 31; (with_reducible refine (bank_Match.calls k t152 t153 _ _ t154 t157 t158 _ _ t159 t170 t173 _ ?side1 ?side2 ?side3 ?side4 A5.out).mono ?_); (case side1 => repeat (first | exact (Kd.R_reads' HO156.out).2.2 | (with_reducible refine Kd.C_alloc ?_ _) | (with_reducible refine Kd.C_drewN ?_ _) | (with_reducible refine Kd.C_drew ?_))); (case side2 => exact (Kd.R_reads' HO156.out).2.1); (case side3 => repeat (first | exact (Kd.R_reads' HO161.out).2.2 | (with_reducible refine Kd.C_alloc ?_ _) | (with_reducible refine Kd.C_drewN ?_ _) | (with_reducible refine Kd.C_drew ?_))); (case side4 => exact (Kd.R_reads' HO161.out).2.1); rintro e w40 ⟨v171, rfl, ho0, hb⟩; replace HO161 := Aside0.mk (Kd.R_below (zR HO161) hb); have HO172 := Aside0.mk (Kd.R_lower (Kd.R_new' ho0 (Kd.R_lt (zR HO156))) (below_size zB)); replace HO156 := Aside0.mk (Kd.R_elder' (zR HO156) (Kd.R_base ho0) hb); replace BK162 := zKb BK162 hb; replace BK163 := zKb BK163 hb; replace HB := zBs hb; (try clear hb); (try clear hb2); (try clear hk); (try clear hi); (try clear ho0)) | (go_at_call 23; (refine (bank_Write.calls k 1 0 _ _ ([] : List (S47)) t174 t175 _ ?side1 ?side2 ?side3 A6.out).mono ?_); (case side1 => exact Kd.C_nil _ _); (case side2 => exact Nat.le_refl _); (case side3 => exact GG.below HG.out zB); rintro e w41 ⟨rfl, hb⟩; replace HO156 := Aside0.mk (Kd.R_below (zR HO156) hb); replace HO161 := Aside0.mk (Kd.R_below (zR HO161) hb); replace HO172 := Aside0.mk (Kd.R_below (zR HO172) hb); replace BK162 := zKb BK162 hb; replace BK163 := zKb BK163 hb; replace HB := zBs hb; (try clear hb); (try clear hb2); (try clear hk); (try clear hi); obtain ⟨Ao42, co42, eo42⟩ := Kd.R_slice HO172.out; subst eo42; have p176 : 0 ≤ (0 : Int) := (by omega); have q176 : 0 < (t170.length : Int) := zD; obtain ⟨ad176, e176, hx176_0, hx176_1, hx176_2, hx176_3, hx176_4⟩ := at_T47 (Kd.R_reads' HO172.out).2.2 0 p176 q176; cases e176; have qi176 : (0 < t170.length) = True := eq_true (by omega); (try rw [show ((0 : Int)).toNat = 0 from rfl] at hx176_0); (try rw [show 0 * 5 = 0 from rfl] at hx176_0); (try rw [Addr.add_zero'] at hx176_0); (try rw [show ((0 : Int)).toNat = 0 from rfl] at hx176_1); (try rw [show 0 * 5 = 0 from rfl] at hx176_1); (try rw [Addr.add_zero'] at hx176_1); (try rw [show ((0 : Int)).toNat = 0 from rfl] at hx176_2); (try rw [show 0 * 5 = 0 from rfl] at hx176_2); (try rw [Addr.add_zero'] at hx176_2); (try rw [show ((0 : Int)).toNat = 0 from rfl] at hx176_3); (try rw [show 0 * 5 = 0 from rfl] at hx176_3); (try rw [Addr.add_zero'] at hx176_3); (try rw [show ((0 : Int)).toNat = 0 from rfl] at hx176_4); (try rw [show 0 * 5 = 0 from rfl] at hx176_4); (try rw [Addr.add_zero'] at hx176_4); replace p176 := eq_true p176; replace q176 := eq_true q176; obtain ⟨hcz43_0, hcz43_1, hcz43_2⟩ := zC3 BK162; obtain ⟨hfz43_0, hfz43_1, hfz43_2⟩ := zZ3 BK162; have p177 : 0 ≤ (1 : Int) := (by omega); have q177 : 1 < (t154.length : Int) := zD; obtain ⟨ad177, e177, hx177_0, hx177_1, hx177_2, hx177_3, hx177_4⟩ := at_T47 (Kd.R_reads' HO156.out).2.2 1 p177 q177; cases e177; (try simp only [show (1 : Int).toNat = 1 from rfl, Nat.reduceMul, Nat.reduceEqDiff, Go.Addr.add, ↓reduceIte] at hx177_0); (try simp only [show (1 : Int).toNat = 1 from rfl, Nat.reduceMul, Nat.reduceEqDiff, Go.Addr.add, ↓reduceIte] at hx177_1); (try simp only [show (1 : Int).toNat = 1 from rfl, Nat.reduceMul, Nat.reduceEqDiff, Go.Addr.add, ↓reduceIte] at hx177_2); (try simp only [show (1 : Int).toNat = 1 from rfl, Nat.reduceMul, Nat.reduceEqDiff, Go.Addr.add, ↓reduceIte] at hx177_3); (try simp only [show (1 : Int).toNat = 1 from rfl, Nat.reduceMul, Nat.reduceEqDiff, Go.Addr.add, ↓reduceIte] at hx177_4); have qi177 : (1 < t154.length) = True := eq_true (by omega); (try rw [show ((1 : Int)).toNat = 1 from rfl] at hx177_0); (try rw [show 1 * 5 = 5 from rfl] at hx177_0); (try rw [show ((1 : Int)).toNat = 1 from rfl] at hx177_1); (try rw [show 1 * 5 = 5 from rfl] at hx177_1); (try rw [show ((1 : Int)).toNat = 1 from rfl] at hx177_2); (try rw [show 1 * 5 = 5 from rfl] at hx177_2); (try rw [show ((1 : Int)).toNat = 1 from rfl] at hx177_3); (try rw [show 1 * 5 = 5 from rfl] at hx177_3); (try rw [show ((1 : Int)).toNat = 1 from rfl] at hx177_4); (try rw [show 1 * 5 = 5 from rfl] at hx177_4); replace p177 := eq_true p177; replace q177 := eq_true q177))
                   repeat (go_quiet (skip); try go_wp2)
                   go_ret
                   exact ⟨zE, zB⟩
                  ·
                   rw [if_neg c24] at H
                   exact absurd H (by simp)
                 ·
                  rw [if_neg c23] at H
                  exact absurd H (by simp)
                ·
                 rw [if_neg c22] at H
                 exact absurd H (by simp)
               ·
                rw [if_neg c21] at H
                exact absurd H (by simp)
              ·
               rw [if_neg c20] at H
               exact absurd H (by simp)
             ·
              rw [if_neg c19] at H
              exact absurd H (by simp)
            ·
             rw [if_neg c18] at H
             have c18b0 : ((t168.extract 0 28).toList == ([66, 65, 67, 75, 32, 55, 32, 49, 48, 50, 32, 49, 10, 114, 101, 116, 117, 114, 110, 32, 52, 32, 50, 10, 69, 78, 68, 32] : List UInt8)) = false := beq_eq_false_iff_ne.mpr c18; have c18b1 : ((t168.extract 0 28).toList != ([66, 65, 67, 75, 32, 55, 32, 49, 48, 50, 32, 49, 10, 114, 101, 116, 117, 114, 110, 32, 52, 32, 50, 10, 69, 78, 68, 32] : List UInt8)) = true := bne_iff_ne.mpr c18; obtain rfl := Option.some.inj H
             go_enter Tryz.func9, Tryz.ntmps9
             go_wp2_with (first | (go_at_call 12; (with_reducible refine (annuitantlaw36_two.calls  t152 t153 t154 t157 t158 t159 _ A1.out).mono ?_); rintro e w44 ⟨v155, v160, rfl, ho0, ho1, hb⟩; have HO156 := Aside0.mk (Kd.R_lower ho0 (below_size zB)); have HO161 := Aside0.mk (Kd.R_lower ho1 (below_size zB)); replace HB := zBs hb; (try clear hb); (try clear hb2); (try clear hk); (try clear hi); (try clear ho0); (try clear ho1)) | ((with_reducible refine gate_dst (N := 1) rfl ?_); (try (refine gate_guard (by rfl) ?_; dsimp only)); refine box_event ?hg (N := 1) ?hd (cs := #[.int .i64 0, .int .i64 0, .slice none 0 0]) (t := 27) ?hr ?_; (case hd => rfl); (case hg => rfl); (case hr => first | (go_simp; done) | (go_simp; rfl)); intro gb162 hg w45 hbox hb; replace HO156 := Aside0.mk (Kd.R_below (zR HO156) hb); replace HO161 := Aside0.mk (Kd.R_below (zR HO161) hb); have BK162 := Aside0.mk (hbox); have GW162 := zG (w := w) hg; have GE162 := zG (w := w) hg; replace HB := zBs hb; clear hb hbox hg) | ((with_reducible refine gate_dst (N := 2) rfl ?_); (try (refine gate_guard (by rfl) ?_; dsimp only)); refine box_event ?hg (N := 2) ?hd (cs := #[.int .i64 0, .int .i64 0, .slice none 0 0]) (t := 30) ?hr ?_; (case hd => rfl); (case hg => rfl); (case hr => first | (go_simp; done) | (go_simp; rfl)); intro gb163 hg w46 hbox hb; replace HO156 := Aside0.mk (Kd.R_below (zR HO156) hb); replace HO161 := Aside0.mk (Kd.R_below (zR HO161) hb); have BK163 := Aside0.mk (hbox); have GW163 := zG (w := w) hg; have GE163 := zG (w := w) hg; replace HB := zBs hb; have NB162_163 := zN hg (zK BK162); have NB163_162 := zM hg (zK BK162); replace BK162 := zKb BK162 hb; clear hb hbox hg; have hnb47 := NB162_163.out; have hnc47 := NB163_162.out; obtain ⟨hcz48_0, hcz48_1, hcz48_2⟩ := zC3 BK162; obtain ⟨hfz48_0, hfz48_1, hfz48_2⟩ := zZ3 BK162; obtain ⟨Ao49, co49, eo49⟩ := Kd.R_slice HO156.out; subst eo49; obtain ⟨hcz50_0, hcz50_1, hcz50_2⟩ := zC3 BK163; obtain ⟨hfz50_0, hfz50_1, hfz50_2⟩ := zZ3 BK163; obtain ⟨Ao51, co51, eo51⟩ := Kd.R_slice HO161.out; subst eo51) | (go_at_call 26; (with_reducible refine (bank_Total.calls k t152 t153 _ _ t154 t164 t165 _ ?side1 ?side2 A2.out).mono ?_); (case side1 => refine (Kd.R_reads' (e := 47) (base := w.heap.size) (ok := fun k_ => True) (n := t154.length) (c := co49) ?_).2.2; exact (by (with_reducible repeat (first | apply Kd.R_alloc | apply Kd.R_drewN | apply Kd.R_drew)); exact (Kd.R_mono (Kd.R_mono (Kd.R_far (p := ⟨gb163, 2, none⟩) (Kd.R_far (p := ⟨gb163, 1, none⟩) (Kd.R_far (p := ⟨gb163, 0, none⟩) (Kd.R_far (p := ⟨gb162, 2, none⟩) (Kd.R_far (p := ⟨gb162, 1, none⟩) (Kd.R_far (p := ⟨gb162, 0, none⟩) (Kd.R_types (Kd.R_types HO156.out BK162.out (by decide)) BK163.out (by decide)) (fun _ hk => hk.1.2) (.int .i64 t152)) (fun _ hk => hk.1.2) (.int .i64 t153)) (fun _ hk => hk.1.2) (.slice Ao49 t154.length co49)) (fun _ hk => hk.2) (.int .i64 t157)) (fun _ hk => hk.2) (.int .i64 t158)) (fun _ hk => hk.2) (.slice Ao51 t159.length co51)) (fun _ h_ => h_.1)) (fun _ h_ => h_.1)))); (case side2 => exact (Kd.R_reads' HO156.out).2.1); rintro e w52 ⟨rfl, hb⟩; replace HO156 := Aside0.mk (Kd.R_below (by (with_reducible repeat (first | apply Kd.R_alloc | apply Kd.R_drewN | apply Kd.R_drew)); exact (Kd.R_mono (Kd.R_mono (Kd.R_far (p := ⟨gb163, 2, none⟩) (Kd.R_far (p := ⟨gb163, 1, none⟩) (Kd.R_far (p := ⟨gb163, 0, none⟩) (Kd.R_far (p := ⟨gb162, 2, none⟩) (Kd.R_far (p := ⟨gb162, 1, none⟩) (Kd.R_far (p := ⟨gb162, 0, none⟩) (Kd.R_types (Kd.R_types HO156.out BK162.out (by decide)) BK163.out (by decide)) (fun _ hk => hk.1.2) (.int .i64 t152)) (fun _ hk => hk.1.2) (.int .i64 t153)) (fun _ hk => hk.1.2) (.slice Ao49 t154.length co49)) (fun _ hk => hk.2) (.int .i64 t157)) (fun _ hk => hk.2) (.int .i64 t158)) (fun _ hk => hk.2) (.slice Ao51 t159.length co51)) (fun _ h_ => h_.1)) (fun _ h_ => h_.1))) hb); replace HO161 := Aside0.mk (Kd.R_below (by (with_reducible repeat (first | apply Kd.R_alloc | apply Kd.R_drewN | apply Kd.R_drew)); exact (Kd.R_mono (Kd.R_mono (Kd.R_far (p := ⟨gb163, 2, none⟩) (Kd.R_far (p := ⟨gb163, 1, none⟩) (Kd.R_far (p := ⟨gb163, 0, none⟩) (Kd.R_far (p := ⟨gb162, 2, none⟩) (Kd.R_far (p := ⟨gb162, 1, none⟩) (Kd.R_far (p := ⟨gb162, 0, none⟩) (Kd.R_types (Kd.R_types HO161.out BK162.out (by decide)) BK163.out (by decide)) (fun _ hk => hk.1.2) (.int .i64 t152)) (fun _ hk => hk.1.2) (.int .i64 t153)) (fun _ hk => hk.1.2) (.slice Ao49 t154.length co49)) (fun _ hk => hk.2) (.int .i64 t157)) (fun _ hk => hk.2) (.int .i64 t158)) (fun _ hk => hk.2) (.slice Ao51 t159.length co51)) (fun _ h_ => h_.1)) (fun _ h_ => h_.1))) hb); replace BK162 := Aside0.mk (blk_below (g := gb162) (o := .cells #[.int .i64 t152, .int .i64 t153, .slice Ao49 t154.length co49] 27 (0, 0)) (by (with_reducible repeat (first | apply blk_drewN | apply blk_drew | apply blk_alloc)); refine blk_far ?_ NB162_163.out _; (with_reducible repeat (first | apply blk_drewN | apply blk_drew | apply blk_alloc)); refine blk_far ?_ NB162_163.out _; (with_reducible repeat (first | apply blk_drewN | apply blk_drew | apply blk_alloc)); refine blk_far ?_ NB162_163.out _; (with_reducible repeat (first | apply blk_drewN | apply blk_drew | apply blk_alloc)); refine blk_put (cs := #[.int .i64 t152, .int .i64 t153, .slice none 0 0]) ?_ 2 _ rfl; (with_reducible repeat (first | apply blk_drewN | apply blk_drew | apply blk_alloc)); refine blk_put (cs := #[.int .i64 t152, .int .i64 0, .slice none 0 0]) ?_ 1 _ rfl; (with_reducible repeat (first | apply blk_drewN | apply blk_drew | apply blk_alloc)); refine blk_put (cs := #[.int .i64 0, .int .i64 0, .slice none 0 0]) ?_ 0 _ rfl; (with_reducible repeat (first | apply blk_drewN | apply blk_drew | apply blk_alloc)); exact BK162.out) hb); replace BK163 := Aside0.mk (blk_below (g := gb163) (o := .cells #[.int .i64 t157, .int .i64 t158, .slice Ao51 t159.length co51] 30 (0, 0)) (by (with_reducible repeat (first | apply blk_drewN | apply blk_drew | apply blk_alloc)); refine blk_put (cs := #[.int .i64 t157, .int .i64 t158, .slice none 0 0]) ?_ 2 _ rfl; (with_reducible repeat (first | apply blk_drewN | apply blk_drew | apply blk_alloc)); refine blk_put (cs := #[.int .i64 t157, .int .i64 0, .slice none 0 0]) ?_ 1 _ rfl; (with_reducible repeat (first | apply blk_drewN | apply blk_drew | apply blk_alloc)); refine blk_put (cs := #[.int .i64 0, .int .i64 0, .slice none 0 0]) ?_ 0 _ rfl; (with_reducible repeat (first | apply blk_drewN | apply blk_drew | apply blk_alloc)); refine blk_far ?_ NB163_162.out _; (with_reducible repeat (first | apply blk_drewN | apply blk_drew | apply blk_alloc)); refine blk_far ?_ NB163_162.out _; (with_reducible repeat (first | apply blk_drewN | apply blk_drew | apply blk_alloc)); refine blk_far ?_ NB163_162.out _; (with_reducible repeat (first | apply blk_drewN | apply blk_drew | apply blk_alloc)); exact BK163.out) hb); replace HB := zBs hb; (try clear hb); (try clear hb2); (try clear hk); (try clear hi); obtain ⟨hcz53_0, hcz53_1, hcz53_2⟩ := zC3 BK162; obtain ⟨hfz53_0, hfz53_1, hfz53_2⟩ := zZ3 BK162) | (go_at_call 23; (with_reducible refine (bank_Write.calls k t152 t153 _ _ t154 t166 t167 _ ?side1 ?side2 ?side3 A3.out).mono ?_); (case side1 => repeat (first | exact (Kd.R_reads' HO156.out).2.2 | (with_reducible refine Kd.C_alloc ?_ _) | (with_reducible refine Kd.C_drewN ?_ _) | (with_reducible refine Kd.C_drew ?_))); (case side2 => exact (Kd.R_reads' HO156.out).2.1); (case side3 => exact GG.below HG.out zB); rintro e w54 ⟨rfl, hb⟩; replace HO156 := Aside0.mk (Kd.R_below (zR HO156) hb); replace HO161 := Aside0.mk (Kd.R_below (zR HO161) hb); replace BK162 := zKb BK162 hb; replace BK163 := zKb BK163 hb; replace HB := zBs hb; (try clear hb); (try clear hb2); (try clear hk); (try clear hi); obtain ⟨hcz55_0, hcz55_1, hcz55_2⟩ := zC3 BK163; obtain ⟨hfz55_0, hfz55_1, hfz55_2⟩ := zZ3 BK163) | (go_at_call 29; (with_reducible refine (bank_WriteAnswer.calls k t157 t158 _ _ t159 t168 t169 _ ?side1 ?side2 ?side3 A4.out).mono ?_); (case side1 => repeat (first | exact (Kd.R_reads' HO161.out).2.2 | (with_reducible refine Kd.C_alloc ?_ _) | (with_reducible refine Kd.C_drewN ?_ _) | (with_reducible refine Kd.C_drew ?_))); (case side2 => exact (Kd.R_reads' HO161.out).2.1); (case side3 => exact GG.below HG.out zB); rintro e w56 ⟨rfl, hb⟩; replace HO156 := Aside0.mk (Kd.R_below (zR HO156) hb); replace HO161 := Aside0.mk (Kd.R_below (zR HO161) hb); replace BK162 := zKb BK162 hb; replace BK163 := zKb BK163 hb; replace HB := zBs hb; (try clear hb); (try clear hb2); (try clear hk); (try clear hi); obtain ⟨hcz57_0, hcz57_1, hcz57_2⟩ := zC3 BK162; obtain ⟨hfz57_0, hfz57_1, hfz57_2⟩ := zZ3 BK162; obtain ⟨hcz58_0, hcz58_1, hcz58_2⟩ := zC3 BK163; obtain ⟨hfz58_0, hfz58_1, hfz58_2⟩ := zZ3 BK163) | (go_at_call 31; (with_reducible refine (bank_Match.calls k t152 t153 _ _ t154 t157 t158 _ _ t159 t170 t173 _ ?side1 ?side2 ?side3 ?side4 A5.out).mono ?_); (case side1 => repeat (first | exact (Kd.R_reads' HO156.out).2.2 | (with_reducible refine Kd.C_alloc ?_ _) | (with_reducible refine Kd.C_drewN ?_ _) | (with_reducible refine Kd.C_drew ?_))); (case side2 => exact (Kd.R_reads' HO156.out).2.1); (case side3 => repeat (first | exact (Kd.R_reads' HO161.out).2.2 | (with_reducible refine Kd.C_alloc ?_ _) | (with_reducible refine Kd.C_drewN ?_ _) | (with_reducible refine Kd.C_drew ?_))); (case side4 => exact (Kd.R_reads' HO161.out).2.1); rintro e w59 ⟨v171, rfl, ho0, hb⟩; replace HO161 := Aside0.mk (Kd.R_below (zR HO161) hb); have HO172 := Aside0.mk (Kd.R_lower (Kd.R_new' ho0 (Kd.R_lt (zR HO156))) (below_size zB)); replace HO156 := Aside0.mk (Kd.R_elder' (zR HO156) (Kd.R_base ho0) hb); replace BK162 := zKb BK162 hb; replace BK163 := zKb BK163 hb; replace HB := zBs hb; (try clear hb); (try clear hb2); (try clear hk); (try clear hi); (try clear ho0)) | (go_at_call 23; (refine (bank_Write.calls k 1 0 _ _ ([] : List (S47)) t174 t175 _ ?side1 ?side2 ?side3 A6.out).mono ?_); (case side1 => exact Kd.C_nil _ _); (case side2 => exact Nat.le_refl _); (case side3 => exact GG.below HG.out zB); rintro e w60 ⟨rfl, hb⟩; replace HO156 := Aside0.mk (Kd.R_below (zR HO156) hb); replace HO161 := Aside0.mk (Kd.R_below (zR HO161) hb); replace HO172 := Aside0.mk (Kd.R_below (zR HO172) hb); replace BK162 := zKb BK162 hb; replace BK163 := zKb BK163 hb; replace HB := zBs hb; (try clear hb); (try clear hb2); (try clear hk); (try clear hi)))
             repeat (go_quiet (skip); try go_wp2)
             go_ret
             exact ⟨zE, zB⟩
           ·
            rw [if_neg c17] at H
            exact absurd H (by simp)
          ·
           rw [if_neg c16] at H
           exact absurd H (by simp)
         ·
          rw [if_neg c15] at H
          exact absurd H (by simp)
        ·
         rw [if_neg c14] at H
         exact absurd H (by simp)
       ·
        rw [if_neg c13] at H
        exact absurd H (by simp)
      ·
       rw [if_neg c12] at H
       exact absurd H (by simp)
     ·
      rw [if_neg c11] at H
      exact absurd H (by simp)
    ·
     rw [if_neg c10] at H
     exact absurd H (by simp)
   ·
    rw [if_neg c9] at H
    exact absurd H (by simp)
  ·
   rw [if_neg c8] at H
   exact absurd H (by simp)
 ·
  rw [if_neg c7] at H
  exact absurd H (by simp)
end Go.Proofs.YtndojpcjhkncgaaGreatDoor.Q
end

section
namespace Go.Proofs.YtndojpcjhkncgaaGreatDoor.Q
open Go.RowKit Go.Proofs.YtndojpcjhkncgaaGreatDoorW.PrintWords
set_option linter.unusedVariables false
set_option linter.unusedSimpArgs false
def exL : List S47 := [⟨3, 55, 1000, 200, 800⟩, ⟨4, 56, 50, 0, 50⟩]
def exR : List S49 := [⟨4, 2⟩]
theorem ex_valid : validB 7 100 exL = true := by decide
theorem ex_right : rightB 7 102 exR = true := by decide
theorem ex_nil : validB 1 0 [] = true := by decide
theorem exW : writeS 7 100 exL = (B (fileText 7 100 exL), 0) := by unfold writeS; rw [if_pos ex_valid]
theorem exA : answerS 7 102 exR = (B (answerText 7 102 exR), 0) := by unfold answerS; rw [if_pos ex_right]
theorem exN : writeS 1 0 [] = (B (fileText 1 0 []), 0) := by unfold writeS; rw [if_pos ex_nil]
theorem exM : matchS 7 100 exL 7 102 exR = ([⟨4, 56, 50, 0, 50⟩], 0) := by
  unfold matchS
  rw [if_pos ⟨ex_valid, ex_right⟩, if_pos (by decide)]
  rfl
theorem txW : fileL 7 100 exL (netSum exL) = [80, 65, 89, 32, 55, 32, 49, 48, 48, 32, 50, 32, 56, 53, 48, 10, 111, 114, 100, 101, 114, 32, 51, 32, 53, 53, 32, 49, 48, 48, 48, 32, 50, 48, 48, 32, 56, 48, 48, 10, 111, 114, 100, 101, 114, 32, 52, 32, 53, 54, 32, 53, 48, 32, 48, 32, 53, 48, 10] := by
  simp [fileL, orderL, lineL, numsL, exL, netSum, Lib.itoa, dec_big, dec_small]
theorem txA : answerL 7 102 exR = [66, 65, 67, 75, 32, 55, 32, 49, 48, 50, 32, 49, 10, 114, 101, 116, 117, 114, 110, 32, 52, 32, 50, 10] := by
  simp [answerL, returnL, lineL, numsL, exR, Lib.itoa, dec_big, dec_small]
theorem txN : fileL 1 0 [] (netSum []) = [80, 65, 89, 32, 49, 32, 48, 32, 48, 32, 48, 10] := by
  simp [fileL, orderL, lineL, numsL, netSum, Lib.itoa, dec_big, dec_small]
theorem txNN : fileText 1 0 [] = [80, 65, 89, 32, 49, 32, 48, 32, 48, 32, 48, 10, 69, 78, 68, 32, 48, 48, 48, 48, 48, 50, 51, 53, 32, 48, 48, 48, 48, 48, 98, 100, 97, 10] := by
  unfold fileText
  rw [txN]
  unfold endL
  rw [← hexR_8 _ (by decide), ← hexR_8 _ (by decide)]
  decide
theorem B_take (l : List UInt8) (n : Nat) : ((B l).extract 0 n).toList = l.take n := by
  rw [ByteArray.toList_eq, ByteArray.data_extract]
  simp [B]
theorem endL_cons (l : List UInt8) : ∃ r, endL l = [69, 78, 68, 32] ++ r := ⟨_, by unfold endL; simp only [List.append_assoc]; rfl⟩
theorem awake_ev : Ev (fun k => annuitantlaw36_awake.f k) true := by
  unfold annuitantlaw36_awake.f
  refine Ev.const (show annuitantlaw36_two.f = some _ from rfl) ?_
  refine Ev.bind (r := true) (Total_ev 7 100 exL (by decide)).1 ?_
  refine Ev.bind (Write_ev 7 100 exL (by decide)) ?_
  refine Ev.bind (WriteAnswer_ev 7 102 exR (by decide)) ?_
  refine Ev.bind (Match_ev 7 100 exL 7 102 exR (by decide) (by decide)) ?_
  refine Ev.bind (Write_ev 1 0 [] (by decide)) ?_
  rw [exW, exA, exN, exM]
  have ht : totalS 7 100 exL = (850, 0) := by decide
  rw [ht]
  obtain ⟨r, hr⟩ := endL_cons (fileL 7 100 exL (netSum exL))
  obtain ⟨r', hr'⟩ := endL_cons (answerL 7 102 exR)
  have h81 : ((B (fileText 7 100 exL)).size : Int) = 81 := by
    rw [B_size]; unfold fileText; rw [List.length_append, endL_len, txW]; rfl
  have h46 : ((B (answerText 7 102 exR)).size : Int) = 46 := by
    rw [B_size]; unfold answerText; rw [List.length_append, endL_len, txA]; rfl
  refine Ev.pos rfl (Ev.pos rfl (Ev.pos rfl (Ev.pos rfl (Ev.pos h81 (Ev.pos h46 (Ev.pos (by omega) (Ev.pos (by rw [h81]; omega) ?_)))))))
  refine Ev.pos (by rw [B_take]; unfold fileText; rw [hr, txW]; rfl) (Ev.pos (by omega) (Ev.pos (by rw [h46]; omega) ?_))
  refine Ev.pos (by rw [B_take]; unfold answerText; rw [hr', txA]; rfl) (Ev.pos rfl (Ev.pos rfl (Ev.pos (by decide) (Ev.pos (by decide) (Ev.pos (by decide) (Ev.pos rfl ?_))))))
  exact Ev.ret (by rw [B_list, txNN]; decide)
end Go.Proofs.YtndojpcjhkncgaaGreatDoor.Q
end

section
namespace Go.Proofs.YtndojpcjhkncgaaGreatDoor.Q
open Go Go.RowKit Go.Shelf Go.Proofs.YtndojpcjhkncgaaGreatDoorW.PrintWords
attribute [local go_sem] Oper.semAt_some
set_option linter.unusedVariables false
set_option linter.unusedSimpArgs false
def flatL (ps : List (List UInt8)) : List UInt8 := ps.flatMap (· ++ [10])
def Bt (l : List UInt8) : ByteArray := ⟨l.toArray⟩
theorem Bt_size (l : List UInt8) : (Bt l).size = l.length := by show l.toArray.size = _; simp
def leftOf (bs : Nat) (w : World) : Nat := match w.cell? ⟨bs, 0, none⟩ with | some (.string s) => s.size | _ => 0
theorem index_piece (x r : List UInt8) (h : (10 : UInt8) ∉ x) : Lib.indexByte (x ++ 10 :: r) 10 = (x.length : Int) := by
  have hge := Lib.indexByte_ge (x ++ 10 :: r) 10
  have hat : (x ++ 10 :: r)[x.length]? = some 10 := by simp
  by_cases hm : Lib.indexByte (x ++ 10 :: r) 10 = -1
  · exact absurd hat (Lib.indexByte_none hm x.length)
  · obtain ⟨o, ho⟩ : ∃ o : Nat, Lib.indexByte (x ++ 10 :: r) 10 = (o : Int) := ⟨(Lib.indexByte (x ++ 10 :: r) 10).toNat, by omega⟩
    obtain ⟨h1, h2⟩ := Lib.indexByte_some ho
    rw [ho]
    rcases Nat.lt_trichotomy o x.length with hl | hl | hl
    · rw [List.getElem?_append_left hl] at h1
      exact absurd (List.mem_of_getElem? h1) h
    · omega
    · exact absurd hat (h2 _ hl)
set_option maxHeartbeats 1000000 in
theorem lines1_in (n l bs : Nat) (ps : List (List UInt8)) (hno : ∀ p ∈ ps, (10 : UInt8) ∉ p) (hsz : (flatL ps).length ≤ 4611686018427387904)
    (J Jx : List (List UInt8) → World → Prop) (hJs : ∀ pre W v, J pre W → J pre (W.setCell ⟨bs, 0, none⟩ v)) (hJd : ∀ pre W, J pre W → J pre W.drew)
    (hY : ∀ pre x rest s W, ps = pre ++ x :: rest → J pre W → W.heap[bs]? = some (.cells #[.string s] 9 (0, 0)) → YieldAt Fence.wide (n - 1) Tryz.prog l #[.string (Bt (x ++ [10]))] W fun e W' =>
      (e = .returned (.bool true) ∧ J (pre ++ [x]) W' ∧ W'.heap[bs]? = W.heap[bs]?) ∨ (e = .returned (.bool false) ∧ Jx (pre ++ [x]) W' ∧ W'.heap[bs]? = W.heap[bs]?))
    (W : World) (hb : W.heap[bs]? = some (.cells #[.string (Bt (flatL ps))] 9 (0, 0))) (h0 : J [] W) :
    CallsIn Fence.wide n Tryz.prog 92 #[.func (.yield l) #[] #[], .pointer (some ⟨bs, 0, none⟩)] W fun e W' => (∃ v, e = .returned v) ∧ (J ps W' ∨ ∃ pre, Jx pre W') := by
  refine callsIn_of_wp Tryz.func92 rfl trivial ?_ rfl
  simp only [Tryz.ntmps92, List.size_toArray, List.length_cons, List.length_nil, Nat.reduceAdd, Nat.reduceSub, Array.replicate_succ, Array.replicate_zero, List.push_toArray, List.append_toArray, List.nil_append, List.cons_append]
  gi_wp2
  gi_loopw [3, 4] (fun p q wr => ∃ pre rest, ps = pre ++ rest ∧ wr.heap[bs]? = some (.cells #[.string (Bt (flatL rest))] 9 (0, 0)) ∧ J pre wr) (fun _ _ wr => leftOf bs wr)
  case atStart => exact ⟨[], ps, rfl, hb, h0⟩
  case round =>
    obtain ⟨pre, rest, hp, hc, hj⟩ := hrel
    obtain ⟨S, hS⟩ : ∃ S, S = Bt (flatL rest) := ⟨_, rfl⟩
    rw [← hS] at hc
    have hcc : wr.cell? ⟨bs, 0, none⟩ = some (.string S) := blk_cell hc 0
    have hcf : wr.frozen? ⟨bs, 0, none⟩ = false := blk_frozen hc 0
    have HS := Lib.hid hS
    have HC := Lib.hid hc
    clear hS hc hb h0
    cases rest with
    | nil =>
      have h0s : S.size = 0 := by rw [HS.out, Bt_size]; rfl
      gi_wp2
      go_end0
      exact ⟨⟨_, rfl⟩, .inl (by rw [hp, List.append_nil]; exact hj)⟩
    | cons x rest =>
      have hxs : S.size = x.length + 1 + (flatL rest).length := by rw [HS.out, Bt_size]; unfold flatL; rw [List.flatMap_cons, List.length_append, List.length_append]; rfl
      have hpos : decide (0 < (S.size : Int)) = true := decide_eq_true (by omega)
      have hpos2 : decide (0 < S.size) = true := decide_eq_true (by omega)
      gi_wp2
      have hidx : Lib.indexByte S.data.toList ((10 : Int).toNat.toUInt8) = (x.length : Int) := by
        have : S.data.toList = x ++ 10 :: flatL rest := by rw [HS.out]; unfold Bt flatL; simp
        rw [this]
        exact index_piece x _ (hno x (by rw [hp]; simp))
      refine ⟨trivial, (fun h => by cases h), (callsIn_wide.2 (Tryz.strings_IndexByte S 10 wr)).mono ?_⟩
      rintro e w' ⟨he, rfl⟩
      rw [hidx] at he
      subst he
      have hge : decide (0 ≤ (x.length : Int)) = true := decide_eq_true (by omega)
      have hSb : S.size ≤ 4611686018427387904 := by
        have h1 : (flatL (pre ++ x :: rest)).length = (flatL pre).length + (x.length + 1 + (flatL rest).length) := by unfold flatL; rw [List.flatMap_append, List.length_append, List.flatMap_cons, List.length_append, List.length_append]; rfl
        rw [hp, h1] at hsz
        omega
      have hw1 : wrap64 ((x.length : Int) + 1) = (x.length : Int) + 1 := IntWalk.wrap64_in _ ⟨by omega, by omega⟩
      have g1 : (0 : Int) ≤ (x.length : Int) + 1 := by omega
      have g2 : (x.length : Int) + 1 ≤ (S.size : Int) := by omega
      have g3 : x.length + 1 ≤ S.size := by omega
      clear hidx
      gi_wp2
      gi_region
      have hd : S.data.toList = x ++ 10 :: flatL rest := by rw [HS.out]; unfold Bt flatL; simp
      have hx1 : S.extract 0 (x.length + 1) = Bt (x ++ [10]) := by
        rw [show S = Bt (x ++ 10 :: flatL rest) by rw [← hd]; cases S; rfl]
        unfold Bt
        apply ByteArray.ext
        simp [ByteArray.data_extract, List.extract]
        rw [show x ++ 10 :: flatL rest = (x ++ [10]) ++ flatL rest by simp, List.take_left' (by simp)]
      have hx2 : S.extract (x.length + 1) (x.length + 1 + (flatL rest).length) = Bt (flatL rest) := by
        rw [show S = Bt (x ++ 10 :: flatL rest) by rw [← hd]; cases S; rfl]
        unfold Bt
        apply ByteArray.ext
        simp [ByteArray.data_extract, List.extract]
      rw [hx1, hx2]
      have hc2 : ((w'.setCell ⟨bs, 0, none⟩ (.string (Bt (flatL rest)))).drew).heap[bs]? = some (.cells #[.string (Bt (flatL rest))] 9 (0, 0)) := blk_drew (blk_put (cs := #[.string S]) HC.out 0 _ rfl)
      have hj2 := hJd _ _ (hJs pre w' (.string (Bt (flatL rest))) hj)
      have HRes := Lib.hid (show leftOf bs w' = x.length + 1 + (flatL rest).length by unfold leftOf; rw [hcc]; exact hxs)
      clear hcc hcf hx1 hx2 hd
      generalize (w'.setCell ⟨bs, 0, none⟩ (.string (Bt (flatL rest)))).drew = w2 at hc2 hj2 ⊢
      obtain ⟨fn, tmps, assign, body, hy, hR⟩ := hY pre x rest _ w2 hp hj2 hc2
      have HC2 := Lib.hid hc2
      clear hc2
      gi_wp2
      refine ⟨(fun h => by cases h), hR.mono ?_⟩
      rintro e W3 (⟨rfl, hj3, hk3⟩ | ⟨rfl, hx3, _⟩)
      · have hc3 := hk3.trans HC2.out
        have HC3 := Lib.hid hc3
        clear hc3 hk3
        gi_wp2
        go_roundw
        case rel => exact ⟨pre ++ [x], rest, by rw [hp]; simp, HC3.out, hj3⟩
        case measure =>
          have h1 : leftOf bs W3 = (flatL rest).length := by unfold leftOf; rw [show W3.cell? ⟨bs, 0, none⟩ = some (.string (Bt (flatL rest))) from blk_cell HC3.out 0]; exact Bt_size _
          rw [h1, HRes.out]
          omega
      · gi_wp2
        refine bodyPost_ret (results_none rfl _ _ _) rfl ?_
        exact ⟨⟨_, rfl⟩, .inr ⟨_, hx3⟩⟩
end Go.Proofs.YtndojpcjhkncgaaGreatDoor.Q
end

section
namespace Go.Proofs.YtndojpcjhkncgaaGreatDoor.Q
open Go
set_option linter.unusedVariables false
set_option linter.unusedSimpArgs false
def wordsL (c : UInt8) : List UInt8 → List (List UInt8)
  | [] => [[]]
  | b :: l => if b = c then [] :: wordsL c l else match wordsL c l with | w :: ws => (b :: w) :: ws | [] => [[b]]
theorem words_one (c : UInt8) : ∀ (l : List UInt8), c ∉ l → wordsL c l = [l]
  | [], _ => rfl
  | b :: l, h => by
    have hb : b ≠ c := fun e => h (by simp [e])
    rw [wordsL, if_neg hb, words_one c l (fun e => h (by simp [e]))]
theorem words_cat (c : UInt8) (r : List UInt8) : ∀ (p : List UInt8), c ∉ p → wordsL c (p ++ c :: r) = p :: wordsL c r
  | [], _ => by rw [List.nil_append, wordsL, if_pos rfl]
  | b :: p, h => by
    have hb : b ≠ c := fun e => h (by simp [e])
    rw [List.cons_append, wordsL, if_neg hb, words_cat c r p (fun e => h (by simp [e]))]
theorem index_at (c : UInt8) (x r : List UInt8) (h : c ∉ x) : Lib.indexByte (x ++ c :: r) c = (x.length : Int) := by
  have hge := Lib.indexByte_ge (x ++ c :: r) c
  have hat : (x ++ c :: r)[x.length]? = some c := by simp
  by_cases hm : Lib.indexByte (x ++ c :: r) c = -1
  · exact absurd hat (Lib.indexByte_none hm x.length)
  · obtain ⟨o, ho⟩ : ∃ o : Nat, Lib.indexByte (x ++ c :: r) c = (o : Int) := ⟨(Lib.indexByte (x ++ c :: r) c).toNat, by omega⟩
    obtain ⟨h1, h2⟩ := Lib.indexByte_some ho
    rw [ho]
    rcases Nat.lt_trichotomy o x.length with hl | hl | hl
    · rw [List.getElem?_append_left hl] at h1
      exact absurd (List.mem_of_getElem? h1) h
    · omega
    · exact absurd hat (h2 _ hl)
theorem index_no (c : UInt8) (l : List UInt8) (h : c ∉ l) : Lib.indexByte l c = -1 := by
  have hge := Lib.indexByte_ge l c
  by_cases hm : Lib.indexByte l c = -1
  · exact hm
  · obtain ⟨o, ho⟩ : ∃ o : Nat, Lib.indexByte l c = (o : Int) := ⟨(Lib.indexByte l c).toNat, by omega⟩
    exact absurd (List.mem_of_getElem? (Lib.indexByte_some ho).1) h
theorem Bt_data (l : List UInt8) : (Bt l).data.toList = l := by unfold Bt; simp
theorem indexB_Bt (l : List UInt8) (c : UInt8) : Lib.indexB (Bt l) ⟨#[c]⟩ = Lib.indexByte l c := by
  unfold Lib.indexB
  rw [Bt_data]
  exact Lib.index_one l c
theorem Bt_cut (p : List UInt8) (c : UInt8) (r : List UInt8) : (Bt (p ++ c :: r)).extract 0 p.length = Bt p ∧ (Bt (p ++ c :: r)).extract (p.length + 1) (Bt (p ++ c :: r)).size = Bt r := by
  constructor
  · apply ByteArray.ext
    simp [Bt, ByteArray.data_extract, List.extract]
  · rw [Bt_size]
    apply ByteArray.ext
    simp [Bt, ByteArray.data_extract, List.extract]
    exact List.take_of_length_le (by omega)
theorem split_words (c : UInt8) : ∀ (n : Nat) (l : List UInt8), l.length ≤ n → Lib.splitB ⟨#[c]⟩ 0 (Lib.countB (Bt l) ⟨#[c]⟩) (Bt l) = (wordsL c l).map Bt ∧ (wordsL c l).length = Lib.countB (Bt l) ⟨#[c]⟩ + 1
  | n, l, hn => by
    by_cases hc : c ∈ l
    · obtain ⟨p, r, hl, hp⟩ := List.eq_append_cons_of_mem hc
      subst hl
      have hi : Lib.indexB (Bt (p ++ c :: r)) ⟨#[c]⟩ = (p.length : Int) := by rw [indexB_Bt]; exact index_at c p r hp
      have hcnt := Lib.countB_hit (Bt (p ++ c :: r)) ⟨#[c]⟩ p.length (Nat.le_refl _) hi
      have h1 : (⟨#[c]⟩ : ByteArray).size = 1 := rfl
      rw [h1, (Bt_cut p c r).2] at hcnt
      cases n with
      | zero => simp at hn
      | succ n =>
        obtain ⟨h2, h3⟩ := split_words c n r (by simp at hn; omega)
        rw [hcnt, Nat.add_comm 1, Lib.splitB_hit _ _ _ _ _ hi, h1, (Bt_cut p c r).2, Nat.add_zero, (Bt_cut p c r).1, h2, words_cat c r p hp]
        exact ⟨rfl, by rw [List.length_cons, h3]⟩
    · have hi : Lib.indexB (Bt l) ⟨#[c]⟩ = -1 := by rw [indexB_Bt]; exact index_no c l hc
      rw [Lib.countB_miss _ _ hi, Lib.splitB_miss _ _ _ _ hi, words_one c l hc]
      exact ⟨rfl, rfl⟩
theorem wordsL_len (c : UInt8) : ∀ (l : List UInt8) (w : List UInt8), w ∈ wordsL c l → w.length ≤ l.length
  | [], w, h => by
    rw [wordsL, List.mem_singleton] at h
    subst h
    exact Nat.le_refl _
  | b :: l, w, h => by
    rw [wordsL] at h
    by_cases hb : b = c
    · rw [if_pos hb] at h
      rcases List.mem_cons.mp h with rfl | h
      · exact Nat.zero_le _
      · exact Nat.le_succ_of_le (wordsL_len c l w h)
    · rw [if_neg hb] at h
      cases hx : wordsL c l with
      | nil =>
        rw [hx] at h
        rw [List.mem_singleton.mp h]
        simp
      | cons x xs =>
        rw [hx] at h
        rcases List.mem_cons.mp h with rfl | h
        · have := wordsL_len c l x (by rw [hx]; exact List.mem_cons_self)
          rw [List.length_cons, List.length_cons]
          omega
        · exact Nat.le_succ_of_le (wordsL_len c l w (by rw [hx]; exact List.mem_cons_of_mem _ h))
end Go.Proofs.YtndojpcjhkncgaaGreatDoor.Q
end

section
namespace Go.Proofs.YtndojpcjhkncgaaGreatDoor.Q
open Go Go.RowKit Go.Proofs.YtndojpcjhkncgaaGreatDoorW.PrintWords Go.Proofs.YtndojpcjhkncgaaGreatDoorW.PrintLast Go.Proofs.YtndojpcjhkncgaaGreatDoorW.PrintMore
set_option linter.unusedVariables false
set_option linter.unusedSimpArgs false
def numIn (v : Int) : Bool := decide (-1099511627776 ≤ v) && decide (v ≤ 1099511627776)
def numF (l : List UInt8) : Int × Bool :=
  match Lib.atoiAll l with
  | .ok v => (v, numIn v && decide (Lib.itoa v = l))
  | .range => (Lib.atoiSat l, false)
  | _ => (0, false)
open Go.Shelf in
theorem atoi_bad (s : ByteArray) (hlim : s.size ≤ 281474976710656) (h1 : ∀ v, Lib.atoiAll s.data.toList ≠ .ok v) (h2 : Lib.atoiAll s.data.toList ≠ .range) (ev : Value) (w : World) (hv : w.cell? ⟨2, 0, none⟩ = some ev) (hev : ev = .nilIface ∨ ∃ te pe, ev = .iface te pe) :
    Calls Tryz.prog 80 #[.string s] w fun e w' => ∃ N, e = .returned (.tuple #[.int .i64 (0), .iface 158 (.pointer (some ⟨N, 0, none⟩))]) ∧ w.heap.size ≤ N ∧ w'.heap[N]? = some (.cells #[.string ⟨#[65, 116, 111, 105]⟩, .string s, ev] 174 (0, 0)) ∧ Below w.heap.size w w' :=
  Any.strconv_Atoi_syntax Tryz.laysC172 s hlim (by
    cases hh : Lib.atoiAll s.data.toList with
    | ok v => exact absurd hh (h1 v)
    | range => exact absurd hh h2
    | _ => rfl) ev w hv hev
set_option maxHeartbeats 1000000 in
theorem number_go (l : List UInt8) (hs : l.length ≤ 281474976710656) (w : World) (hG : GG w) :
    Calls Tryz.prog 68 #[.string ⟨l.toArray⟩] w fun e w' => e = .returned (.tuple #[.int .i64 (numF l).1, .bool (numF l).2]) ∧ Below w.heap.size w w' := by
  obtain ⟨s, hsl⟩ : ∃ s : ByteArray, s = ⟨l.toArray⟩ := ⟨_, rfl⟩
  have hd : s.data.toList = l := by rw [hsl]
  have hsz : s.size = l.length := by rw [hsl]; show l.toArray.size = _; simp
  rw [← hsl]
  have HSL := Lib.hid hsl
  have HD := Lib.hid hd
  have HG := Lib.hid hG
  clear hsl
  cases hat : Lib.atoiAll l with
  | ok v =>
    have HA := Lib.hid hat
    have hA := Tryz.strconv_Atoi_ok s (by omega) v (by rw [hd]; exact hat) w
    have HC := Lib.hid hA
    clear hA hat hd hG
    go_enter Tryz.func68, Tryz.ntmps68
    go_wp2_with fail
    refine HC.out.mono ?_
    rintro e w1 ⟨rfl, hw⟩
    have HB := Lib.hid (show Below w.heap.size w w1 by
      rcases hw with rfl | ⟨t, rfl⟩
      · exact Below.refl _ _
      · exact Lib.bytesWorld_below _ _ _)
    clear hw HC
    by_cases h1 : -1099511627776 ≤ v
    · have h1b : decide (-1099511627776 ≤ v) = true := decide_eq_true h1
      by_cases h2 : v ≤ 1099511627776
      · have h2b : decide (v ≤ 1099511627776) = true := decide_eq_true h2
        go_wp2_with fail
        refine (strconv_Itoa.calls v ⟨(Lib.itoa v).toArray⟩ w1 (HG.out.below HB.out) (by unfold strconv_Itoa.f; rw [if_pos (by omega)])).mono ?_
        rintro e w2 ⟨rfl, hb2⟩
        have HB2 := Lib.hid (below_then HB.out HB.out.size hb2)
        clear hb2
        go_wp2_with fail
        go_ret2
        have hb : (Lib.itoa v == s.toList) = decide (Lib.itoa v = l) := by rw [ByteArray.toList_eq, HD.out, Bool.eq_iff_iff, beq_iff_eq, decide_eq_true_iff]
        have hn : numF l = (v, decide (Lib.itoa v = l)) := by unfold numF numIn; rw [HA.out]; simp [h1b, h2b]
        exact ⟨by rw [hn, ← hb]; rfl, HB2.out⟩
      · have h2b : decide (v ≤ 1099511627776) = false := decide_eq_false h2
        go_wp2_with fail
        go_ret2
        exact ⟨by unfold numF; rw [HA.out]; simp [numIn]; intro h3 h4; omega, HB.out⟩
    · have h1b : decide (-1099511627776 ≤ v) = false := decide_eq_false h1
      go_wp2_with fail
      go_ret2
      exact ⟨by unfold numF; rw [HA.out]; simp [numIn]; intro h3 h4; omega, HB.out⟩
  | range =>
    obtain ⟨ev, hv, hev⟩ := hG.rng
    have HC := Lib.hid (Tryz.strconv_Atoi_range s (by omega) (by rw [hd]; exact hat) ev w hv hev)
    have HA := Lib.hid hat
    clear hat hG hv hev
    obtain ⟨v, hv⟩ : ∃ v, v = Lib.atoiSat s.data.toList := ⟨_, rfl⟩
    rw [← hv] at HC
    have HV := Lib.hid (show v = Lib.atoiSat l by rw [hv, hd])
    clear hv hd
    go_enter Tryz.func68, Tryz.ntmps68
    go_wp2_with fail
    refine HC.out.mono ?_
    rintro e w1 ⟨N, rfl, _, _, hb⟩
    have HB := Lib.hid hb
    clear hb HC
    go_wp2_with fail
    go_ret2
    exact ⟨by unfold numF; rw [HA.out, ← HV.out]; rfl, HB.out⟩
  | _ =>
    obtain ⟨ev, hv, hev⟩ := hG.syn
    have HC := Lib.hid (atoi_bad s (by omega) (fun v e => by rw [hd, hat] at e; cases e) (fun e => by rw [hd, hat] at e; cases e) ev w hv hev)
    have HA := Lib.hid hat
    clear hat hd hG hv hev
    go_enter Tryz.func68, Tryz.ntmps68
    go_wp2_with fail
    refine HC.out.mono ?_
    rintro e w1 ⟨N, rfl, _, _, hb⟩
    have HB := Lib.hid hb
    clear hb HC
    go_wp2_with fail
    go_ret2
    exact ⟨by unfold numF; rw [HA.out]; rfl, HB.out⟩
end Go.Proofs.YtndojpcjhkncgaaGreatDoor.Q
end

section
namespace Go.Proofs.YtndojpcjhkncgaaGreatDoor.Q
open Go Go.RowKit Go.Proofs.YtndojpcjhkncgaaGreatDoorW.PrintWords
set_option linter.unusedVariables false
set_option linter.unusedSimpArgs false
def numsOf : List (List UInt8) → Option (List Int)
  | [] => some []
  | w :: ws => if (numF w).2 = true then (numsOf ws).map ((numF w).1 :: ·) else none
def scanF (l word : List UInt8) (m : Nat) : Option (List Int) :=
  match wordsL 32 l with
  | w :: ws => if w = word ∧ ws.length = m then numsOf ws else none
  | [] => none
def setAll (w : World) (l : List ((Nat × Nat) × Int)) : World := l.foldl (fun w x => w.setCell ⟨x.1.1, x.1.2, none⟩ (.int .i64 x.2)) w
theorem setAll_snoc (w : World) (l : List ((Nat × Nat) × Int)) (p : Nat × Nat) (n : Int) : setAll w (l ++ [(p, n)]) = (setAll w l).setCell ⟨p.1, p.2, none⟩ (.int .i64 n) := by simp [setAll, List.foldl_append]
theorem setAll_size : ∀ (l : List ((Nat × Nat) × Int)) (w : World), (setAll w l).heap.size = w.heap.size
  | [], w => rfl
  | x :: l, w => by
    show (setAll (w.setCell ⟨x.1.1, x.1.2, none⟩ (.int .i64 x.2)) l).heap.size = _
    rw [setAll_size l]
    simp [World.setCell]
theorem setAll_other : ∀ (l : List ((Nat × Nat) × Int)) (w : World) (k : Nat), (∀ x ∈ l, x.1.1 ≠ k) → (setAll w l).heap[k]? = w.heap[k]?
  | [], w, k, _ => rfl
  | x :: l, w, k, h => by
    show (setAll (w.setCell ⟨x.1.1, x.1.2, none⟩ (.int .i64 x.2)) l).heap[k]? = _
    rw [setAll_other l _ k (fun y hy => h y (List.mem_cons_of_mem _ hy))]
    exact Below.heap_setCell _ _ _ _ (fun e => h x List.mem_cons_self e.symm)
theorem setAll_below (B : Nat) : ∀ (l : List ((Nat × Nat) × Int)) (w : World), (∀ x ∈ l, B ≤ x.1.1) → Below B w (setAll w l)
  | [], w, _ => Below.refl _ _
  | x :: l, w, h => ((Below.refl B w).setCell (p := ⟨x.1.1, x.1.2, none⟩) (h x List.mem_cons_self) _).trans (setAll_below B l _ (fun y hy => h y (List.mem_cons_of_mem _ hy)))
theorem setAll_shape : ∀ (l : List ((Nat × Nat) × Int)) (w : World) (k : Nat) (cs : Array Value) (t : TypeId), w.heap[k]? = some (.cells cs t (0, 0)) → ∃ cs', (setAll w l).heap[k]? = some (.cells cs' t (0, 0)) ∧ cs'.size = cs.size
  | [], w, k, cs, t, h => ⟨cs, h, rfl⟩
  | x :: l, w, k, cs, t, h => by
    show ∃ cs', (setAll (w.setCell ⟨x.1.1, x.1.2, none⟩ (.int .i64 x.2)) l).heap[k]? = _ ∧ _
    by_cases hk : x.1.1 = k
    · subst hk
      obtain ⟨cs', h1, h2⟩ := setAll_shape l _ x.1.1 (cs.setIfInBounds x.1.2 (.int .i64 x.2)) t (blk_put h x.1.2 (.int .i64 x.2) rfl)
      exact ⟨cs', h1, by rw [h2]; simp⟩
    · exact setAll_shape l _ k cs t ((Below.heap_setCell _ _ _ _ (fun e => hk e.symm)).trans h)
theorem numsOf_snoc : ∀ (ws : List (List UInt8)) (x : List UInt8), numsOf (ws ++ [x]) = match numsOf ws with | some ms => if (numF x).2 = true then some (ms ++ [(numF x).1]) else none | none => none
  | [], x => by
    show (if (numF x).2 = true then (numsOf []).map ((numF x).1 :: ·) else none) = _
    split <;> simp [numsOf]
  | w :: ws, x => by
    rw [List.cons_append, numsOf, numsOf, numsOf_snoc ws x]
    by_cases h : (numF w).2 = true
    · rw [if_pos h, if_pos h]
      cases numsOf ws with
      | none => rfl
      | some ms =>
        simp only [Option.map_some]
        split <;> simp
    · rw [if_neg h, if_neg h]
theorem numsOf_none : ∀ (a b : List (List UInt8)), numsOf a = none → numsOf (a ++ b) = none
  | [], b, h => by cases h
  | w :: ws, b, h => by
    rw [List.cons_append, numsOf]
    rw [numsOf] at h
    by_cases hw : (numF w).2 = true
    · rw [if_pos hw] at h ⊢
      rw [numsOf_none ws b (by simpa using h)]
      rfl
    · rw [if_neg hw]
theorem numsOf_len : ∀ (ws : List (List UInt8)) (ns : List Int), numsOf ws = some ns → ns.length = ws.length
  | [], ns, h => by cases h; rfl
  | w :: ws, ns, h => by
    unfold numsOf at h
    split at h
    · obtain ⟨ms, h1, rfl⟩ := Option.map_eq_some_iff.mp h
      rw [List.length_cons, List.length_cons, numsOf_len ws ms h1]
    · cases h
theorem zip_snoc {α β : Type} : ∀ (ms : List β) (ps : List α) (n : β) (h : ms.length < ps.length), ps.zip (ms ++ [n]) = ps.zip ms ++ [(ps[ms.length], n)]
  | [], p :: ps, n, _ => by simp
  | m :: ms, p :: ps, n, h => by
    have := zip_snoc ms ps n (by simpa using h)
    simp [this]
theorem below_set_both {B : Nat} {A C : World} (h : Below B A C) (p : Addr) (hp : p.block < B) (v : Value) : Below B (A.setCell p v) (C.setCell p v) :=
  ⟨h.os, h.tape, h.output, by have := h.size; simpa [World.setCell] using this, fun k hk => by simp only [World.setCell, Array.getElem?_modify]; rw [h.block k hk]⟩
theorem scan_bounds (q n N : Nat) (h : q < n) (hn : n ≤ 100) (hN : N = n + 1) : (0 : Int) ≤ (q : Int) ∧ (q : Int) < (n : Int) ∧ wrap64 ((q : Int) + 1) = (q : Int) + 1 ∧ (q : Int) + 1 < (N : Int) ∧ (0 : Int) ≤ (q : Int) + 1 := by
  refine ⟨by omega, by omega, IntWalk.wrap64_in _ ⟨by omega, by omega⟩, by omega, by omega⟩
set_option maxHeartbeats 2000000 in
theorem scan_go (l word : List UInt8) (hl : l.length ≤ 1048576) (ptrs : List (Nat × Nat)) (hpl : ptrs.length ≤ 100) (g : Nat) (w0 w : World) (hG0 : GG w0) (hlow : Below w0.heap.size w0 w)
    (hg : w.heap[g]? = some (.cells (ptrs.map fun p => Value.pointer (some ⟨p.1, p.2, none⟩)).toArray 90 (0, 0)))
    (hp : ∀ p ∈ ptrs, p.1 ≠ g ∧ w0.heap.size ≤ p.1 ∧ ∃ cs t, w.heap[p.1]? = some (.cells cs t (0, 0)) ∧ p.2 < cs.size) :
    Calls Tryz.prog 49 #[.string (Bt l), .string (Bt word), .slice (some ⟨g, 0, none⟩) ptrs.length ptrs.length] w fun e w' =>
      ∃ ms, e = .returned (.bool (scanF l word ptrs.length).isSome) ∧ ms.length ≤ ptrs.length ∧ (∀ ns, scanF l word ptrs.length = some ns → ms = ns) ∧ Below w.heap.size (setAll w (ptrs.zip ms)) w' := by
  have hG := hG0.below hlow
  obtain ⟨m, hm⟩ := hG.max
  have HG0 := Lib.hid hG0
  have HLow := Lib.hid hlow
  clear hG0 hlow
  have HSp := Lib.hid (Tryz.strings_Split (Bt l) ⟨#[32]⟩ m w (by rw [Bt_size]; omega) hm (Nat.le_refl _))
  obtain ⟨hw1, hw2⟩ := split_words 32 l.length l (Nat.le_refl _)
  have HG := Lib.hid hG
  have HW1 := Lib.hid hw1
  have HW2 := Lib.hid hw2
  have HP := Lib.hid hp
  have HGg := Lib.hid hg
  clear hG hm hw1 hw2 hp hg
  go_enter Tryz.func49, Tryz.ntmps49
  go_wp2_with fail
  refine HSp.out.mono ?_
  rintro e w1 ⟨rfl, hw⟩
  rw [HW1.out] at hw
  rw [← HW2.out]
  obtain ⟨wd, ws, hwl⟩ : ∃ wd ws, wordsL 32 l = wd :: ws := by
    cases hx : wordsL 32 l with
    | nil => have := HW2.out; rw [hx] at this; simp at this
    | cons a b => exact ⟨a, b, rfl⟩
  obtain ⟨N, hN⟩ : ∃ N, N = (wordsL 32 l).length := ⟨_, rfl⟩
  rw [← hN]
  have hN1 : N = ws.length + 1 := by rw [hN, hwl]; rfl
  have hblk : w1.heap[w.heap.size]? = some (.cells (((wordsL 32 l).map Bt).map Value.string).toArray 9 (0, 0)) := by rw [hw]; exact blk_new w _
  rw [hwl] at hblk
  have hc0 : w1.cell? ⟨w.heap.size, 0, none⟩ = some (.string (Bt wd)) := blk_cell hblk 0
  have h0 : (0 : Int) < (N : Int) := by omega
  have HB1 := Lib.hid (show Below w.heap.size w w1 by rw [hw]; exact below_alloc (Below.refl _ _) _)
  have HBk := Lib.hid hblk
  have HWL := Lib.hid hwl
  have HN := Lib.hid hN
  have HN1 := Lib.hid hN1
  clear hw hblk hwl hN hN1 HSp
  have hw64 : wrap64 ((ptrs.length : Int) + 1) = (ptrs.length : Int) + 1 := IntWalk.wrap64_in _ ⟨by omega, by omega⟩
  go_wp2_with fail
  · rename_i heq hne
    go_ret
    have hs : scanF l word ptrs.length = none := by
      unfold scanF
      rw [HWL.out]
      show (if wd = word ∧ ws.length = ptrs.length then numsOf ws else none) = none
      rw [if_neg]
      rintro ⟨_, h2⟩
      have := HN1.out
      have h4 : (N : Int) ≠ (ptrs.length : Int) + 1 := by simpa using hne
      omega
    rw [hs]
    exact ⟨[], rfl, Nat.zero_le _, (fun ns h => by cases h), by rw [List.zip_nil_right]; exact HB1.out⟩
  rotate_left
  · rename_i hne
    go_ret
    have hs : scanF l word ptrs.length = none := by
      unfold scanF
      rw [HWL.out]
      show (if wd = word ∧ ws.length = ptrs.length then numsOf ws else none) = none
      rw [if_neg]
      rintro ⟨rfl, _⟩
      exact hne rfl
    rw [hs]
    exact ⟨[], rfl, Nat.zero_le _, (fun ns h => by cases h), by rw [List.zip_nil_right]; exact HB1.out⟩
  rename_i heq hnn K1 hK1
  have HNN := Lib.hid (show N = ptrs.length + 1 by
    have h4 : (N : Int) = (ptrs.length : Int) + 1 := by simpa using hnn
    omega)
  have HEQ := Lib.hid (show wd = word by
    rw [ByteArray.toList_eq, ByteArray.toList_eq, Bt_data, Bt_data] at heq
    exact heq)
  clear heq hnn hc0 h0 hw64
  go_loopw [29] (fun i wr => ∃ (q : Nat) (ms : List Int), q ≤ ptrs.length ∧ i = .int .i64 q ∧ ms.length = q ∧ numsOf (ws.take q) = some ms ∧ Hid (Below w.heap.size (setAll w (ptrs.zip ms)) wr) ∧ Hid (wr.heap[w.heap.size]? = some (.cells (((wd :: ws).map Bt).map Value.string).toArray 9 (0, 0)))) (fun i _ => ptrs.length - (intOf i).toNat)
  case atStart => exact ⟨0, [], Nat.zero_le _, rfl, rfl, rfl, Lib.hid (by rw [List.zip_nil_right]; exact HB1.out), HBk⟩
  case round =>
    obtain ⟨q, ms, hq, rfl, hms, hns, HB, HK⟩ := hrel
    by_cases hlt : q < ptrs.length
    · have hwl : ws.length = ptrs.length := by have := HN1.out; have := HNN.out; omega
      have hqw : q < ws.length := by omega
      obtain ⟨p, hpq⟩ : ∃ p, p = ptrs[q] := ⟨_, rfl⟩
      obtain ⟨x, hxq⟩ : ∃ x, ws[q]? = some x := ⟨_, List.getElem?_eq_getElem hqw⟩
      have hmem : x ∈ ws := List.mem_of_getElem? hxq
      have hpm : p ∈ ptrs := by rw [hpq]; exact List.getElem_mem hlt
      obtain ⟨hpg, hpb, cs, t, hcs, hoff⟩ := HP.out p hpm
      have hzip : ∀ y ∈ ptrs.zip ms, y.1 ∈ ptrs := fun y hy => (List.of_mem_zip hy).1
      have hgl := blk_lt HGg.out
      have hgw : wr.heap[g]? = some (.cells (ptrs.map fun p => Value.pointer (some ⟨p.1, p.2, none⟩)).toArray 90 (0, 0)) :=
        (HB.out.block g hgl).trans ((setAll_other _ _ _ (fun y hy => (HP.out _ (hzip y hy)).1)).trans HGg.out)
      have hcp : wr.cell? ⟨g, q, none⟩ = some (.pointer (some ⟨p.1, p.2, none⟩)) := by rw [show wr.cell? ⟨g, q, none⟩ = _ from blk_cell hgw q]; simp [hlt, hpq]
      have hcx : wr.cell? ⟨w.heap.size, q + 1, none⟩ = some (.string (Bt x)) := by rw [show wr.cell? ⟨w.heap.size, q + 1, none⟩ = _ from blk_cell HK.out (q + 1)]; simp [hxq]
      have hlow2 : Below w0.heap.size w0 wr := (HLow.out.trans (setAll_below _ _ _ (fun y hy => (HP.out _ (hzip y hy)).2.1))).trans ⟨HB.out.os, HB.out.tape, HB.out.output, HB.out.size, fun k hk => HB.out.block k (by have := HLow.out.size; omega)⟩
      have HGr := Lib.hid (HG0.out.below hlow2)
      have HX := Lib.hid hxq
      have HPQ := Lib.hid hpq
      have HM := Lib.hid (And.intro hms hns)
      clear hxq hpq hlow2 hzip hms hns hwl hqw
      obtain ⟨k1, k2, k3, k4, k5⟩ := scan_bounds q ptrs.length N hlt hpl HNN.out
      have hxl : x.length ≤ 1048576 := Nat.le_trans (wordsL_len 32 l x (by rw [HWL.out]; exact List.mem_cons_of_mem _ hmem)) hl
      go_wp2_with fail
      refine (number_go x (by omega) wr HGr.out).mono ?_
      rintro e w3 ⟨rfl, hb3⟩
      have HB3 := Lib.hid hb3
      obtain ⟨nv, hnv⟩ : ∃ nv, nv = (numF x).1 := ⟨_, rfl⟩
      obtain ⟨ok, hok⟩ : ∃ ok, ok = (numF x).2 := ⟨_, rfl⟩
      rw [← hnv, ← hok]
      obtain ⟨cs', hs1, hs2⟩ := setAll_shape (ptrs.zip ms) w p.1 cs t hcs
      have hpl2 := blk_lt hcs
      have hc3 : w3.heap[p.1]? = some (.cells cs' t (0, 0)) := (hb3.block p.1 (by have := HB.out.size; rw [setAll_size] at this; omega)).trans ((HB.out.block p.1 hpl2).trans hs1)
      have hcc3 : w3.cell? ⟨p.1, p.2, none⟩ = some (cs'[p.2]'(by omega)) := (blk_cell hc3 p.2).trans (Array.getElem?_eq_getElem (by omega))
      have hcf3 : w3.frozen? ⟨p.1, p.2, none⟩ = false := blk_frozen hc3 p.2
      obtain ⟨ov, hov⟩ : ∃ ov, ov = cs'[p.2]'(by omega) := ⟨_, rfl⟩
      rw [← hov] at hcc3
      have HNV := Lib.hid hnv
      have HOK := Lib.hid hok
      have HPB := Lib.hid (And.intro hpl2 hpm)
      clear hb3 hnv hok hs1 hs2 hc3 hov hpl2 hxl hmem hpm hcs hgw hcp hcx hoff
      cases ok with
      | false =>
        go_wp2_with fail
        go_ret
        have hs : scanF l word ptrs.length = none := by
          unfold scanF
          rw [HWL.out]
          show (if wd = word ∧ ws.length = ptrs.length then numsOf ws else none) = none
          split
          · rw [← List.take_append_drop (q + 1) ws]
            refine numsOf_none _ _ ?_
            rw [List.take_add_one, HX.out, Option.toList_some, numsOf_snoc, HM.out.2]
            show (if (numF x).2 = true then _ else none) = none
            rw [← HOK.out]
            rfl
          · rfl
        rw [hs]
        exact ⟨ms, rfl, by rw [HM.out.1]; exact hq, (fun ns h => by cases h), below_then HB.out (by have := HB.out.size; rw [setAll_size] at this; exact this) HB3.out⟩
      | true =>
        go_wp2_with fail
        have hns2 : numsOf (ws.take (q + 1)) = some (ms ++ [nv]) := by
          rw [List.take_add_one, HX.out, Option.toList_some, numsOf_snoc, HM.out.2]
          show (if (numF x).2 = true then _ else none) = _
          rw [← HOK.out, if_pos rfl, HNV.out]
        have hz : setAll w (ptrs.zip (ms ++ [nv])) = (setAll w (ptrs.zip ms)).setCell ⟨p.1, p.2, none⟩ (.int .i64 nv) := by
          rw [zip_snoc ms ptrs nv (by rw [HM.out.1]; exact hlt), setAll_snoc]
          simp only [HM.out.1, HPQ.out]
        have hbz : Below w.heap.size (setAll w (ptrs.zip (ms ++ [nv]))) (w3.setCell ⟨p.1, p.2, none⟩ (.int .i64 nv)) := by
          rw [hz]
          exact below_set_both (below_then HB.out (by have := HB.out.size; rw [setAll_size] at this; exact this) HB3.out) _ HPB.out.1 _
        have hk4 : (w3.setCell ⟨p.1, p.2, none⟩ (.int .i64 nv)).heap[w.heap.size]? = some (.cells (((wd :: ws).map Bt).map Value.string).toArray 9 (0, 0)) :=
          (Below.heap_setCell _ _ _ _ (by have := HPB.out.1; show w.heap.size ≠ p.1; omega)).trans ((HB3.out.block _ (blk_lt HK.out)).trans HK.out)
        go_roundw
        case rel => exact ⟨q + 1, ms ++ [nv], by omega, by go_num, by rw [List.length_append, HM.out.1]; rfl, hns2, Lib.hid hbz, Lib.hid hk4⟩
        case measure => simp [intOf]; omega
    · obtain rfl : q = ptrs.length := by omega
      have hwl : ws.length = ptrs.length := by have := HN1.out; have := HNN.out; omega
      have hs : scanF l word ptrs.length = some ms := by
        unfold scanF
        rw [HWL.out]
        show (if wd = word ∧ ws.length = ptrs.length then numsOf ws else none) = some ms
        rw [if_pos ⟨HEQ.out, hwl⟩]
        rw [← hwl, List.take_length] at hns
        exact hns
      have HS := Lib.hid hs
      have HMS := Lib.hid hms
      clear hs hms hns hwl
      go_wp2_with fail
      go_ret
      rw [HS.out]
      exact ⟨ms, rfl, Nat.le_of_eq HMS.out, (fun ns h => Option.some.inj h), HB.out⟩
end Go.Proofs.YtndojpcjhkncgaaGreatDoor.Q
end

section
namespace Go.Proofs.YtndojpcjhkncgaaGreatDoor.Q
open Go
set_option linter.unusedVariables false
set_option linter.unusedSimpArgs false
theorem parse_append : ∀ (l r : List UInt8) (acc v : Nat), Lib.parseUint10 acc l = .ok v → Lib.parseUint10 acc (l ++ r) = Lib.parseUint10 v r
  | [], r, acc, v, h => by
    simp only [Lib.parseUint10] at h
    injection h with h
    rw [h, List.nil_append]
  | c :: l, r, acc, v, h => by
    simp only [Lib.parseUint10] at h
    split at h
    · rename_i h1
      split at h
      · cases h
      · rename_i h2
        split at h
        · cases h
        · rename_i h3
          rw [List.cons_append, Lib.parseUint10, if_pos h1, if_neg h2, if_neg h3]
          exact parse_append l r _ v h
    · cases h
theorem digit_nat (d : Nat) (h : d < 10) : (UInt8.ofNat (48 + d)).toNat = 48 + d := by
  rw [UInt8.toNat_ofNat']
  omega
theorem parse_dec (u : Nat) : u ≤ 1099511627776 → Lib.parseUint10 0 (Lib.decDigits u) = .ok u := by
  induction u using Nat.strongRecOn with
  | ind u ih =>
    intro hu
    have one : ∀ (acc d : Nat), d < 10 → acc ≤ 1099511627776 → Lib.parseUint10 acc [UInt8.ofNat (48 + d)] = .ok (acc * 10 + d) := by
      intro acc d hd ha
      rw [Lib.parseUint10, digit_nat d hd, if_pos (by omega), if_neg (by omega), if_neg (by omega), Lib.parseUint10]
      congr 1
      omega
    by_cases h : u < 10
    · rw [dec_small u h, one 0 u h (by omega)]
      congr 1
      omega
    · rw [dec_big u h, parse_append _ _ 0 (u / 10) (ih (u / 10) (by omega) (by omega)), one _ _ (by omega) (by omega)]
      congr 1
      omega
theorem dec_head (u : Nat) : ∃ c r, Lib.decDigits u = c :: r ∧ 48 ≤ c.toNat ∧ c.toNat ≤ 57 := by
  induction u using Nat.strongRecOn with
  | ind u ih =>
    by_cases h : u < 10
    · exact ⟨_, [], dec_small u h, by rw [digit_nat u h]; omega, by rw [digit_nat u h]; omega⟩
    · obtain ⟨c, r, h1, h2, h3⟩ := ih (u / 10) (by omega)
      exact ⟨c, r ++ [UInt8.ofNat (48 + u % 10)], by rw [dec_big u h, h1]; rfl, h2, h3⟩
theorem dec_all (u : Nat) : ∀ c ∈ Lib.decDigits u, 48 ≤ c.toNat ∧ c.toNat ≤ 57 := by
  induction u using Nat.strongRecOn with
  | ind u ih =>
    intro c hc
    by_cases h : u < 10
    · rw [dec_small u h, List.mem_singleton] at hc
      rw [hc, digit_nat u h]
      omega
    · rw [dec_big u h] at hc
      rcases List.mem_append.mp hc with hc | hc
      · exact ih _ (by omega) c hc
      · rw [List.mem_singleton.mp hc, digit_nat _ (by omega)]
        omega
theorem itoa_all (n : Int) : ∀ c ∈ Lib.itoa n, c = 45 ∨ (48 ≤ c.toNat ∧ c.toNat ≤ 57) := by
  intro c hc
  unfold Lib.itoa at hc
  split at hc
  · rcases List.mem_cons.mp hc with rfl | hc
    · exact .inl rfl
    · exact .inr (dec_all _ c hc)
  · exact .inr (dec_all _ c hc)
theorem numIn_iff (v : Int) : numIn v = true ↔ -1099511627776 ≤ v ∧ v ≤ 1099511627776 := by simp [numIn]
theorem atoi_itoa (v : Int) (h : numIn v = true) : Lib.atoiAll (Lib.itoa v) = .ok v := by
  obtain ⟨h1, h2⟩ := (numIn_iff v).mp h
  have hmag : ∀ u : Nat, u ≤ 1099511627776 → Lib.parseMag (Lib.decDigits u) = .ok u := by
    intro u hu
    obtain ⟨c, r, hc, _⟩ := dec_head u
    rw [Lib.parseMag, if_neg (by rw [hc]; simp), parse_dec u hu]
  by_cases hv : v < 0
  · obtain ⟨u, rfl⟩ : ∃ u : Nat, v = -(u : Int) := ⟨v.natAbs, by omega⟩
    rw [show Lib.itoa (-(u : Int)) = 45 :: Lib.decDigits u by unfold Lib.itoa; rw [if_pos hv]; simp, Lib.atoiAll_minus, hmag u (by omega)]
    show (if 9223372036854775808 < u then Lib.NumEnd.range else .ok (-(u : Int))) = _
    rw [if_neg (by omega)]
  · obtain ⟨u, rfl⟩ : ∃ u : Nat, v = (u : Int) := ⟨v.natAbs, by omega⟩
    rw [show Lib.itoa (u : Int) = Lib.decDigits u by unfold Lib.itoa; rw [if_neg hv]; simp]
    obtain ⟨c, r, hc, h3, h4⟩ := dec_head u
    have hm := hmag u (by omega)
    rw [hc] at hm ⊢
    rw [Lib.atoiAll_plain c r (by omega) (by omega), hm]
    show (if 9223372036854775808 ≤ u then Lib.NumEnd.range else .ok (u : Int)) = _
    rw [if_neg (by omega)]
theorem numF_itoa (v : Int) (h : numIn v = true) : numF (Lib.itoa v) = (v, true) := by
  unfold numF
  rw [atoi_itoa v h]
  simp [h]
theorem numF_true (w : List UInt8) (h : (numF w).2 = true) : numIn (numF w).1 = true ∧ Lib.itoa (numF w).1 = w := by
  unfold numF at h ⊢
  split at h <;> simp_all
theorem numsOf_iff : ∀ (ws : List (List UInt8)) (ns : List Int), numsOf ws = some ns ↔ ws = ns.map Lib.itoa ∧ ∀ n ∈ ns, numIn n = true
  | [], ns => by
    constructor
    · intro h
      cases h
      exact ⟨rfl, fun n h => by cases h⟩
    · rintro ⟨h, _⟩
      cases ns with
      | nil => rfl
      | cons _ _ => cases h
  | w :: ws, ns => by
    constructor
    · intro h
      unfold numsOf at h
      split at h
      · rename_i hw
        obtain ⟨ms, h1, rfl⟩ := Option.map_eq_some_iff.mp h
        obtain ⟨h2, h3⟩ := (numsOf_iff ws ms).mp h1
        obtain ⟨h4, h5⟩ := numF_true w hw
        refine ⟨by rw [List.map_cons, h5, ← h2], fun n hn => ?_⟩
        rcases List.mem_cons.mp hn with rfl | hn
        · exact h4
        · exact h3 n hn
      · cases h
    · rintro ⟨h, hn⟩
      cases ns with
      | nil => cases h
      | cons n ns =>
        rw [List.map_cons] at h
        injection h with h1 h2
        have hf := numF_itoa n (hn n List.mem_cons_self)
        unfold numsOf
        rw [h1, hf, if_pos rfl, (numsOf_iff ws ns).mpr ⟨h2, fun m hm => hn m (List.mem_cons_of_mem _ hm)⟩]
        rfl
theorem words_join (c : UInt8) : ∀ (l w : List UInt8) (ws : List (List UInt8)), wordsL c l = w :: ws → l = w ++ ws.flatMap (fun x => c :: x)
  | [], w, ws, h => by cases h; rfl
  | b :: l, w, ws, h => by
    rw [wordsL] at h
    by_cases hb : b = c
    · rw [if_pos hb] at h
      injection h with h1 h2
      subst h1 h2
      cases hx : wordsL c l with
      | nil =>
        exact absurd hx (by
          cases l with
          | nil => simp [wordsL]
          | cons d l =>
            rw [wordsL]
            split
            · simp
            · split <;> simp)
      | cons a t =>
        rw [hb, List.nil_append, List.flatMap_cons, List.cons_append, ← words_join c l a t hx]
    · rw [if_neg hb] at h
      cases hx : wordsL c l with
      | nil =>
        exact absurd hx (by
          cases l with
          | nil => simp [wordsL]
          | cons d l =>
            rw [wordsL]
            split
            · simp
            · split <;> simp)
      | cons a t =>
        rw [hx] at h
        injection h with h1 h2
        subst h1 h2
        rw [List.cons_append, ← words_join c l a t hx]
theorem words_ne (c : UInt8) (l : List UInt8) : ∃ a t, wordsL c l = a :: t := by
  cases l with
  | nil => exact ⟨_, _, rfl⟩
  | cons d l =>
    rw [wordsL]
    split
    · exact ⟨_, _, rfl⟩
    · split <;> exact ⟨_, _, rfl⟩
theorem words_no (c : UInt8) : ∀ (l w : List UInt8), w ∈ wordsL c l → c ∉ w
  | [], w, h => by
    rw [wordsL, List.mem_singleton] at h
    rw [h]
    exact List.not_mem_nil
  | b :: l, w, h => by
    rw [wordsL] at h
    by_cases hb : b = c
    · rw [if_pos hb] at h
      rcases List.mem_cons.mp h with rfl | h
      · exact List.not_mem_nil
      · exact words_no c l w h
    · rw [if_neg hb] at h
      obtain ⟨a, t, hx⟩ := words_ne c l
      rw [hx] at h
      rcases List.mem_cons.mp h with rfl | h
      · intro hm
        rcases List.mem_cons.mp hm with e | hm
        · exact hb e.symm
        · exact words_no c l a (by rw [hx]; exact List.mem_cons_self) hm
      · exact words_no c l w (by rw [hx]; exact List.mem_cons_of_mem _ h)
theorem words_joined (c : UInt8) : ∀ (ws : List (List UInt8)) (w : List UInt8), c ∉ w → (∀ x ∈ ws, c ∉ x) → wordsL c (w ++ ws.flatMap (fun x => c :: x)) = w :: ws
  | [], w, hw, _ => by rw [List.flatMap_nil, List.append_nil, words_one c w hw]
  | x :: ws, w, hw, h => by
    rw [List.flatMap_cons, List.cons_append, words_cat c _ w hw, words_joined c ws x (h x List.mem_cons_self) (fun y hy => h y (List.mem_cons_of_mem _ hy))]
theorem numsL_map (ns : List Int) : numsL ns = (ns.map Lib.itoa).flatMap (fun x => 32 :: x) := by
  unfold numsL
  rw [List.flatMap_map]
theorem itoa_no (c : UInt8) (n : Int) (h : c ≠ 45) (h2 : c.toNat < 48 ∨ 57 < c.toNat) : c ∉ Lib.itoa n := by
  intro hm
  rcases itoa_all n c hm with e | e
  · exact h e
  · omega
theorem scanF_iff (l word : List UInt8) (hw : (32 : UInt8) ∉ word) (m : Nat) (ns : List Int) : scanF l word m = some ns ↔ l = word ++ numsL ns ∧ ns.length = m ∧ ∀ n ∈ ns, numIn n = true := by
  constructor
  · intro h
    unfold scanF at h
    obtain ⟨a, t, hx⟩ := words_ne 32 l
    rw [hx] at h
    have h : (if a = word ∧ t.length = m then numsOf t else none) = some ns := h
    split at h
    · rename_i hc
      obtain ⟨h1, h2⟩ := (numsOf_iff t ns).mp h
      refine ⟨?_, ?_, h2⟩
      · rw [words_join 32 l a t hx, hc.1, numsL_map, h1]
      · rw [← hc.2, h1, List.length_map]
    · cases h
  · rintro ⟨rfl, rfl, hn⟩
    unfold scanF
    rw [numsL_map, words_joined 32 _ word hw (fun x hx => by
      obtain ⟨n, _, rfl⟩ := List.mem_map.mp hx
      exact itoa_no 32 n (by decide) (by decide))]
    show (if word = word ∧ (ns.map Lib.itoa).length = ns.length then numsOf (ns.map Lib.itoa) else none) = _
    rw [if_pos ⟨rfl, List.length_map _⟩, (numsOf_iff _ ns).mpr ⟨rfl, hn⟩]
theorem words_flat (c : UInt8) (x : List UInt8) : (wordsL c x).flatMap (· ++ [c]) = x ++ [c] := by
  obtain ⟨a, t, hx⟩ := words_ne c x
  have hj := words_join c x a t hx
  rw [hx, hj]
  have gen : ∀ (t : List (List UInt8)) (a : List UInt8), (a :: t).flatMap (· ++ [c]) = a ++ t.flatMap (fun x => c :: x) ++ [c] := by
    intro t
    induction t with
    | nil => intro a; simp
    | cons b t ih =>
      intro a
      rw [List.flatMap_cons, ih b, List.flatMap_cons]
      simp
  exact gen t a
end Go.Proofs.YtndojpcjhkncgaaGreatDoor.Q
end

section
namespace Go.Proofs.YtndojpcjhkncgaaGreatDoor.Q
open Go Go.RowKit Go.Shelf Go.Proofs.YtndojpcjhkncgaaGreatDoorW.PrintWords
set_option linter.unusedVariables false
set_option linter.unusedSimpArgs false
def bodyPostX {α : Type} (D : Nat) (Kp : World → World → Prop) (I Ix : List α → World → Prop) (xs : List α) (W : World) : Exit → Act → World → Prop
  | .normal, _, W' => (∀ k, k = D ∨ k = D + 1 → W'.heap[k]? = W.heap[k]?) ∧ Kp W W' ∧ I xs W'
  | .ret, _, W' => (∀ k, k = D ∨ k = D + 1 → W'.heap[k]? = W.heap[k]?) ∧ Kp W W' ∧ Ix xs W'
  | _, _, _ => False
theorem range_law {α : Type} {P : Program} {n : Nat} {g : Operand} {ps : Array Tmp} {assign body : Code} {Q : Exit → Act → World → Prop} {a : Act} {w : World}
    {gf : Nat} {lb : Array Value} (hg : a.eval g = .func (.func gf) #[] lb) (eg : ∀ args w, (callFunc gf args).run P w = .ok (.enter gf args) w)
    (encs : α → Array Value) (hps : ∀ x, (encs x).size = ps.size) (Nx : List α → α → Prop) (Fin : List α → Prop) (Ex : World → Prop) (St Kp : World → World → Prop)
    (hseq : ∀ (J Jx : List α → World → Prop) (W : World), Below w.heap.size w W → W.heap.size = w.heap.size + 2 → (∀ pre A B, J pre A → St A B → J pre B) → (∀ pre A B, Jx pre A → St A B → Jx pre B) →
      (∀ pre x W1, Nx pre x → J pre W1 → Ex W1 → YieldAt Fence.wide (n - 1 - 1) P (w.heap.size + 1) (encs x) W1 fun e W' => (e = .returned (.bool true) ∧ J (pre ++ [x]) W' ∧ Kp W1 W') ∨ (e = .returned (.bool false) ∧ Jx (pre ++ [x]) W' ∧ Kp W1 W')) →
      J [] W → CallsIn Fence.wide (n - 1) P gf (#[.func (.yield (w.heap.size + 1)) #[] #[]] ++ lb) W fun e W' => (∃ v, e = .returned v) ∧ ((∃ xs, Fin xs ∧ J xs W') ∨ ∃ pre, Jx pre W'))
    (hSt : ∀ A B, St A B → ∀ k, k = w.heap.size ∨ k = w.heap.size + 1 → B.heap[k]? = A.heap[k]?)
    (hKt : ∀ A B C, Kp A B → Kp B C → Kp A C) (hKr : ∀ W o, Kp W (W.putObj (w.heap.size + 1) o))
    (hEx : ∀ W o, Ex W → Ex (W.putObj (w.heap.size + 1) o))
    (I Ix : List α → World → Prop) (hI0 : ∀ W, Below w.heap.size w W → W.heap.size = w.heap.size + 2 → I [] W) (hIs : ∀ pre A B, I pre A → St A B → I pre B) (hXs : ∀ pre A B, Ix pre A → St A B → Ix pre B)
    (hIr : ∀ pre W o, I pre W → I pre (W.putObj (w.heap.size + 1) o)) (hXr : ∀ pre W o, Ix pre W → Ix pre (W.putObj (w.heap.size + 1) o))
    (a₁ : α → Act)
    (hassign : ∀ (x : α) (W : World) (K : Act → World → Prop), K (a₁ x) W →
      assign.wpIn (Fence.wide.inRound (w.heap.size + 1)) (n - 1 - 1) P (Exit.then K (fun _ _ _ => False)) { tmps := (ps.zip (encs x)).foldl (fun t (p, v) => t.setIfInBounds p v) a.tmps, defers := [] } W)
    (hbody : ∀ (pre : List α) (x : α) (W : World), Nx pre x → I pre W → Ex W → w.heap.size + 1 < W.heap.size → body.wpIn (Fence.wide.inRound (w.heap.size + 1)) (n - 1 - 1) P (bodyPostX w.heap.size Kp I Ix (pre ++ [x]) W) (a₁ x) W)
    (hdone : ∀ (xs : List α) (W : World), Fin xs → I xs W → W.heap[w.heap.size]? = some (.deferred (some [])) → Q .normal { a with defers := { target := .collected w.heap.size, args := #[] } :: a.defers } W)
    (hstop : ∀ (pre : List α) (W : World), Ix pre W → W.heap[w.heap.size]? = some (.deferred (some [])) → Code.ret.wpIn Fence.wide n P Q { a with defers := { target := .collected w.heap.size, args := #[] } :: a.defers } W) :
    (Code.rangeFunc g ps assign body).wpIn Fence.wide n P Q a w := by
  refine wpIn_rangeFunc ?_
  intro fn hfn
  obtain ⟨book, hbook⟩ : ∃ book : LoopState → Option Code → Loop, book = fun st pe => { state := st, pending := pe, fn, tmps := a.tmps, params := ps, assign, body, defers := w.heap.size } := ⟨_, rfl⟩
  obtain ⟨W1, hW1⟩ : ∃ W1, (w.alloc (.deferred (some []))).alloc (.loop (book .ready none)) = W1 := ⟨_, rfl⟩
  have hBk : W1.heap[w.heap.size + 1]? = some (.loop (book .ready none)) := by
    have h := World.alloc_heap_new (w.alloc (.deferred (some []))) (.loop (book .ready none))
    rw [World.size_alloc] at h
    rw [← hW1]; exact h
  have hDf : W1.heap[w.heap.size]? = some (.deferred (some [])) := by
    rw [← hW1]; exact (Below.heap_alloc _ _ _ (by simp)).trans (World.alloc_heap_new w _)
  have hlow : Below w.heap.size w W1 := by rw [← hW1]; exact ((Below.refl _ w).alloc (Nat.le_refl _) _).alloc (by simp) _
  have hsz : W1.heap.size = w.heap.size + 2 := by rw [← hW1]; simp
  refine ⟨w.heap.size + 1, [{ target := .collected w.heap.size, args := #[] }], W1, { target := .fn (.func gf) lb, args := #[.func (.yield (w.heap.size + 1)) #[] #[]] }, W1, gf,
    #[.func (.yield (w.heap.size + 1)) #[] #[]] ++ lb, W1, ?_, ?_, fun _ _ => trivial, ?_, (fun h => by cases h), ?_⟩
  · rw [← hW1, hbook]; exact run_enterLoop_outer _ _ _ _ _
  · simp only [resolve, hg]
    simp [go_sem]
  · simp [invoke, go_sem, eg]
  · refine (hseq (fun pre W => I pre W ∧ W.heap[w.heap.size + 1]? = some (.loop (book .ready none)) ∧ W.heap[w.heap.size]? = some (.deferred (some [])))
      (fun pre W => Ix pre W ∧ W.heap[w.heap.size + 1]? = some (.loop (book .done (some .ret))) ∧ W.heap[w.heap.size]? = some (.deferred (some [])))
      W1 hlow hsz (fun pre A B h hs => ⟨hIs pre A B h.1 hs, (hSt A B hs _ (.inr rfl)).trans h.2.1, (hSt A B hs _ (.inl rfl)).trans h.2.2⟩) (fun pre A B h hs => ⟨hXs pre A B h.1 hs, (hSt A B hs _ (.inr rfl)).trans h.2.1, (hSt A B hs _ (.inl rfl)).trans h.2.2⟩) ?_ ⟨hI0 W1 hlow hsz, hBk, hDf⟩).mono ?_
    · rintro pre x W hN ⟨hi, hl, hk⟩ hE
      have hlt : w.heap.size + 1 < W.heap.size := (Array.getElem?_eq_some_iff.1 hl).1
      have hy := run_yield (P := P) (args := encs x) hl (by rw [hbook]; exact hps x)
      rw [hbook] at hy
      refine ⟨fn, _, assign, body, hy, roundIn_of_wpIn hfn (hassign x W _ ⟨_, run_beginRound hl (by rw [hbook]), ?_⟩)⟩
      have l2 : (W.putObj (w.heap.size + 1) (.loop { book .ready none with state := .busy })).heap[w.heap.size + 1]? = some (.loop { book .ready none with state := .busy }) := World.putObj_heap_same hlt
      have d2 : (W.putObj (w.heap.size + 1) (.loop { book .ready none with state := .busy })).heap[w.heap.size]? = some (.deferred (some [])) := (World.putObj_heap_other (by omega)).trans hk
      refine wpIn_mono (hbody pre x _ hN (hIr _ _ _ hi) (hEx _ _ hE) (by simpa using hlt)) ?_
      have fin : ∀ (jump : Option Code) (W3 : World), (∀ k, k = w.heap.size ∨ k = w.heap.size + 1 → W3.heap[k]? = (W.putObj (w.heap.size + 1) (.loop { book .ready none with state := .busy })).heap[k]?) →
          (Instr.endRound (w.heap.size + 1) jump).run P W3 = .ok (.bool jump.isNone) (W3.putObj (w.heap.size + 1) (.loop (book (if jump.isNone then .ready else .done) jump))) ∧
          (W3.putObj (w.heap.size + 1) (.loop (book (if jump.isNone then .ready else .done) jump))).heap[w.heap.size + 1]? = some (.loop (book (if jump.isNone then .ready else .done) jump)) ∧
          (W3.putObj (w.heap.size + 1) (.loop (book (if jump.isNone then .ready else .done) jump))).heap[w.heap.size]? = some (.deferred (some [])) := fun jump W3 hs => by
        have l3 := (hs _ (.inr rfl)).trans l2
        have hr := run_endRound (P := P) jump l3
        rw [hbook] at hr ⊢
        exact ⟨hr, World.putObj_heap_same (Array.getElem?_eq_some_iff.1 l3).1, (World.putObj_heap_other (by omega)).trans ((hs _ (.inl rfl)).trans d2)⟩
      rintro e a3 W3 hp
      cases e with
      | normal =>
        obtain ⟨h1, h2, h3⟩ := hp
        obtain ⟨hr, l4, d4⟩ := fin none W3 h1
        exact ⟨_, _, hr, .inl ⟨rfl, ⟨hIr _ _ _ h3, l4, d4⟩, hKt _ _ _ (hKt _ _ _ (hKr _ _) h2) (hKr _ _)⟩⟩
      | ret =>
        obtain ⟨h1, h2, h3⟩ := hp
        obtain ⟨hr, l4, d4⟩ := fin (some .ret) W3 h1
        exact ⟨_, _, hr, .inr ⟨rfl, ⟨hXr _ _ _ h3, l4, d4⟩, hKt _ _ _ (hKt _ _ _ (hKr _ _) h2) (hKr _ _)⟩⟩
      | exit id => exact hp.elim
      | goto t => exact hp.elim
      | panic ch => exact hp.elim
      | outgrown => exact hp.elim
    · rintro e W2 ⟨⟨v, rfl⟩, (⟨xs, hS, hi, hl, hk⟩ | ⟨pre, hi, hl, hk⟩)⟩
      · exact ⟨none, _, by have h := run_endLoop (P := P) hl (by rw [hbook]; simp); rw [hbook] at h; exact h, hdone xs _ hS (hIr _ _ _ hi) ((World.putObj_heap_other (by omega)).trans hk)⟩
      · exact ⟨some .ret, _, by have h := run_endLoop (P := P) hl (by rw [hbook]; simp); rw [hbook] at h; exact h, hstop pre _ (hXr _ _ _ hi) ((World.putObj_heap_other (by omega)).trans hk)⟩
end Go.Proofs.YtndojpcjhkncgaaGreatDoor.Q
end

section
namespace Go.Proofs.YtndojpcjhkncgaaGreatDoor.Q
open Go Go.RowKit Go.Shelf Go.Proofs.YtndojpcjhkncgaaGreatDoorW.PrintWords
attribute [local go_sem] Oper.semAt_some
set_option linter.unusedVariables false
set_option linter.unusedSimpArgs false
theorem yield_any {P : Program} {m m' l : Nat} {args : Array Value} {W : World} {R : Ending → World → Prop} (h : YieldAt Fence.wide m P l args W R) : YieldAt Fence.wide m' P l args W R := by
  obtain ⟨fn, tmps, assign, body, hy, hR⟩ := h
  exact ⟨fn, tmps, assign, body, hy, hR.1, fun c cs _ => hR.2 c cs (room_wide _)⟩
theorem lines_make (s : ByteArray) (w : World) : Calls Tryz.prog 77 #[.string s] w fun e w' => e = .returned (.func (.func 92) #[] #[.pointer (some ⟨w.heap.size, 0, none⟩)]) ∧ w' = w.alloc (.cells #[.string s] 9 (0, 0)) := by
  go_enter Tryz.func77, Tryz.ntmps77
  go_wp2
  go_ret
  exact ⟨rfl, rfl⟩
structure OutR (B0 B1 : Nat) (A B : World) : Prop where
  os : B.os = A.os
  tape : B.tape = A.tape
  output : B.output = A.output
  size : A.heap.size ≤ B.heap.size
  same : ∀ k, k < B0 ∨ B1 ≤ k → B.heap[k]? = A.heap[k]?
theorem OutR.set (B0 B1 : Nat) (W : World) (b j : Nat) (v : Value) (h0 : B0 ≤ b) (h1 : b < B1) : OutR B0 B1 W (W.setCell ⟨b, j, none⟩ v) :=
  ⟨rfl, rfl, rfl, by simp [World.setCell], fun k hk => Below.heap_setCell W ⟨b, j, none⟩ v k (by show k ≠ b; omega)⟩
theorem OutR.put (B0 B1 : Nat) (W : World) (b : Nat) (o : Obj) (h0 : B0 ≤ b) (h1 : b < B1) : OutR B0 B1 W (W.putObj b o) :=
  ⟨rfl, rfl, rfl, by simp, fun k hk => World.putObj_heap_other (by omega)⟩
theorem OutR.drew (B0 B1 : Nat) (W : World) : OutR B0 B1 W W.drew := ⟨rfl, rfl, rfl, Nat.le_refl _, fun _ _ => rfl⟩
theorem trim_piece (x : List UInt8) : (⟨(Lib.trimSuffix (Bt (x ++ [10])).data.toList (⟨#[10]⟩ : ByteArray).data.toList).toArray⟩ : ByteArray) = Bt x := by
  have h1 : (Bt (x ++ [10])).data.toList = x ++ [10] := by unfold Bt; simp
  have h2 : (⟨#[10]⟩ : ByteArray).data.toList = [10] := rfl
  rw [h1, h2]
  have h3 : Lib.hasSuffix (x ++ [10]) [10] = true := by
    unfold Lib.hasSuffix
    rw [List.isSuffixOf_iff_suffix]
    exact ⟨x, rfl⟩
  unfold Lib.trimSuffix Bt
  rw [h3]
  simp
set_option maxHeartbeats 2000000 in
theorem bankLines1_in (n l bt : Nat) (ps : List (List UInt8)) (hno : ∀ p ∈ ps, (10 : UInt8) ∉ p) (hsz : (flatL ps).length ≤ 4611686018427387904) (W : World)
    (J Jx : List (List UInt8) → World → Prop) (hJ : ∀ pre A B, J pre A → OutR W.heap.size (W.heap.size + 4) A B → J pre B)
    (hY : ∀ pre x rest W1, ps = pre ++ x :: rest → J pre W1 → W.heap.size + 4 ≤ W1.heap.size → YieldAt Fence.wide (n - 1) Tryz.prog l #[.string (Bt x)] W1 fun e W' =>
      (e = .returned (.bool true) ∧ J (pre ++ [x]) W' ∧ W1.heap.size ≤ W'.heap.size ∧ ∀ k, W.heap.size ≤ k → k < W.heap.size + 4 → W'.heap[k]? = W1.heap[k]?) ∨ (e = .returned (.bool false) ∧ Jx (pre ++ [x]) W' ∧ ∀ k, W.heap.size ≤ k → k < W.heap.size + 4 → W'.heap[k]? = W1.heap[k]?))
    (hJx : ∀ pre A B, Jx pre A → OutR W.heap.size (W.heap.size + 4) A B → Jx pre B)
    (hb : W.heap[bt]? = some (.cells #[.string (Bt (flatL ps))] 9 (0, 0))) (h0 : J [] W) :
    CallsIn Fence.wide n Tryz.prog 76 #[.func (.yield l) #[] #[], .pointer (some ⟨bt, 0, none⟩)] W fun e W' => (∃ v, e = .returned v) ∧ (J ps W' ∨ ∃ pre, Jx pre W') := by
  refine callsIn_of_wp_marks Tryz.func76 rfl trivial ?_ rfl
  simp only [Tryz.ntmps76, List.size_toArray, List.length_cons, List.length_nil, Nat.reduceAdd, Nat.reduceSub, Array.replicate_succ, Array.replicate_zero, List.push_toArray, List.append_toArray, List.nil_append, List.cons_append]
  obtain ⟨S, hS⟩ : ∃ S, S = Bt (flatL ps) := ⟨_, rfl⟩
  rw [← hS] at hb
  have hcc : W.cell? ⟨bt, 0, none⟩ = some (.string S) := blk_cell hb 0
  have hbl := blk_lt hb
  have hc2 : (W.alloc (.cells #[.func (.yield l) #[] #[]] 23 (0, 0))).cell? ⟨bt, 0, none⟩ = some (.string S) := blk_cell (blk_alloc hb _) 0
  have HS := Lib.hid hS
  clear hS
  gi_wp2
  refine ⟨trivial, (fun h => by cases h), (callsIn_wide.2 (lines_make S _)).mono ?_⟩
  rintro e w' ⟨rfl, rfl⟩
  gi_wp2
  have HB2 := Lib.hid (show Below W.heap.size W ((W.alloc (.cells #[.func (.yield l) #[] #[]] 23 (0, 0))).alloc (.cells #[.string S] 9 (0, 0))) from ((Below.refl _ W).alloc (Nat.le_refl _) _).alloc (by simp) _)
  have hby2 : ((W.alloc (.cells #[.func (.yield l) #[] #[]] 23 (0, 0))).alloc (.cells #[.string S] 9 (0, 0))).heap[W.heap.size]? = some (.cells #[.func (.yield l) #[] #[]] 23 (0, 0)) := blk_alloc (blk_new W _) _
  have hbs2 : ((W.alloc (.cells #[.func (.yield l) #[] #[]] 23 (0, 0))).alloc (.cells #[.string S] 9 (0, 0))).heap[W.heap.size + 1]? = some (.cells #[.string S] 9 (0, 0)) := by
    have h := blk_new (W.alloc (.cells #[.func (.yield l) #[] #[]] 23 (0, 0))) (.cells #[.string S] 9 (0, 0))
    rwa [World.size_alloc] at h
  have hs2 : ((W.alloc (.cells #[.func (.yield l) #[] #[]] 23 (0, 0))).alloc (.cells #[.string S] 9 (0, 0))).heap.size = W.heap.size + 2 := by simp
  clear hc2 hcc
  generalize (W.alloc (.cells #[.func (.yield l) #[] #[]] 23 (0, 0))).alloc (.cells #[.string S] 9 (0, 0)) = w2 at HB2 hby2 hbs2 hs2 ⊢
  refine range_law (gf := 92) (lb := #[.pointer (some ⟨W.heap.size + 1, 0, none⟩)]) rfl (enters_of Tryz.func92 (by kernel_rfl) rfl) (fun x : List UInt8 => #[.string (Bt (x ++ [10]))]) (fun _ => rfl)
    (fun pre x => ∃ rest, ps = pre ++ x :: rest) (fun xs => xs = ps) (fun W1 => ∃ s, W1.heap[W.heap.size + 1]? = some (.cells #[.string s] 9 (0, 0)))
    (fun A B => (∃ v, B = A.setCell ⟨W.heap.size + 1, 0, none⟩ v) ∨ B = A.drew) (fun A B => B.heap[W.heap.size + 1]? = A.heap[W.heap.size + 1]?)
    ?seq ?St (fun A B C h1 h2 => h2.trans h1) (fun W1 o => World.putObj_heap_other (by omega)) (fun W1 o ⟨s, h⟩ => ⟨s, (World.putObj_heap_other (by omega)).trans h⟩)
    (fun pre W1 => J pre W1 ∧ W1.heap[W.heap.size]? = some (.cells #[.func (.yield l) #[] #[]] 23 (0, 0)) ∧ W.heap.size + 4 ≤ W1.heap.size) Jx
    ?I0 ?Is ?Xs ?Ir (fun pre W1 o h => hJx _ _ _ h (OutR.put _ _ _ _ _ (by omega) (by omega)))
    (fun x => { tmps := #[.func (.yield l) #[] #[], .pointer (some ⟨bt, 0, none⟩), .pointer (some ⟨W.heap.size, 0, none⟩), .string (Bt (x ++ [10])), .string S, .func (.func 92) #[] #[.pointer (some ⟨W.heap.size + 1, 0, none⟩)], .string (Bt (x ++ [10])), undef, undef, undef, undef, undef], defers := [] }) ?assign ?body ?done ?stop
  case seq =>
    intro J' Jx' W1 hlow hsz1 hst _ hy' h0'
    refine (lines1_in (n - 1) (w2.heap.size + 1) (W.heap.size + 1) ps hno hsz J' Jx' (fun pre A v h => hst _ _ _ h (.inl ⟨v, rfl⟩)) (fun pre A h => hst _ _ _ h (.inr rfl)) (fun pre x rest s A hp hj hc => hy' pre x A ⟨rest, hp⟩ hj ⟨s, hc⟩) W1 (by rw [← HS.out]; exact blk_below hbs2 hlow) h0').mono ?_
    rintro e W' ⟨hv, hj | hx⟩
    · exact ⟨hv, .inl ⟨ps, rfl, hj⟩⟩
    · exact ⟨hv, .inr hx⟩
  case St =>
    rintro A B (⟨v, rfl⟩ | rfl) k hk
    · exact Below.heap_setCell _ _ _ _ (by show k ≠ W.heap.size + 1; omega)
    · rfl
  case I0 =>
    intro W1 hlow hsz1
    refine ⟨hJ _ _ _ h0 ?_, blk_below hby2 hlow, by omega⟩
    have hb3 := below_then HB2.out (by omega) hlow
    refine ⟨hb3.os, hb3.tape, hb3.output, hb3.size, fun k hk => ?_⟩
    by_cases hlt : k < W.heap.size
    · exact hb3.block k hlt
    · rw [Array.getElem?_eq_none (by omega), Array.getElem?_eq_none (by omega)]
  case Is =>
    rintro pre A B ⟨h1, h2, h3⟩ (⟨v, rfl⟩ | rfl)
    · exact ⟨hJ _ _ _ h1 (OutR.set _ _ _ _ _ _ (by omega) (by omega)), (Below.heap_setCell _ _ _ _ (by show W.heap.size ≠ W.heap.size + 1; omega)).trans h2, by simpa [World.setCell] using h3⟩
    · exact ⟨hJ _ _ _ h1 (OutR.drew _ _ _), h2, h3⟩
  case Xs =>
    rintro pre A B h (⟨v, rfl⟩ | rfl)
    · exact hJx _ _ _ h (OutR.set _ _ _ _ _ _ (by omega) (by omega))
    · exact hJx _ _ _ h (OutR.drew _ _ _)
  case Ir =>
    rintro pre W1 o ⟨h1, h2, h3⟩
    exact ⟨hJ _ _ _ h1 (OutR.put _ _ _ _ _ (by omega) (by omega)), (World.putObj_heap_other (by omega)).trans h2, by simpa using h3⟩
  case assign =>
    intro x W1 K hK
    gi_wp2
    exact hK
  case body =>
    rintro pre x W1 ⟨rest, hp⟩ ⟨hj, hby, hs4⟩ ⟨s, hbs⟩ hlt
    have hcy : W1.cell? ⟨W.heap.size, 0, none⟩ = some (.func (.yield l) #[] #[]) := blk_cell hby 0
    obtain ⟨fn, tmps, assign, body, hyy, hR⟩ := hY pre x rest W1.drew hp (hJ _ _ _ hj (OutR.drew _ _ _)) hs4
    have hxl : (Bt (x ++ [10])).size ≤ 9223372036854775807 := by
      have h1 : (flatL (pre ++ x :: rest)).length = (flatL pre).length + (x.length + 1 + (flatL rest).length) := by unfold flatL; rw [List.flatMap_append, List.length_append, List.flatMap_cons, List.length_append, List.length_append]; rfl
      rw [hp, h1] at hsz
      rw [Bt_size, List.length_append]
      simp
      omega
    have hT := trim_piece x
    have HTr : ∀ w', CallsIn Fence.wide (n - 1 - 1 - 1) Tryz.prog 78 #[.string (Bt (x ++ [10])), .string ⟨#[10]⟩] w' fun e w'' => e = .returned (.string (Bt x)) ∧ w'' = w' := fun w' => by
      have h : CallsIn Fence.wide (n - 1 - 1 - 1) Tryz.prog 78 #[.string (Bt (x ++ [10])), .string ⟨#[10]⟩] w' _ := callsIn_wide.2 (Tryz.strings_TrimSuffix (Bt (x ++ [10])) ⟨#[10]⟩ w' hxl)
      rw [hT] at h
      exact h
    have HTr := Lib.hid HTr
    clear hT
    have HR : RoundIn Fence.wide (n - 1 - 1 - 1) Tryz.prog l fn tmps assign body W1.drew fun e W' => ∃ b : Bool, e = .returned (.bool b) ∧ Hid ((∀ k, W.heap.size ≤ k → k < W.heap.size + 4 → W'.heap[k]? = W1.heap[k]?) ∧ (if b = true then J (pre ++ [x]) W' ∧ W1.heap.size ≤ W'.heap.size else Jx (pre ++ [x]) W')) := by
      refine (show RoundIn Fence.wide (n - 1 - 1 - 1) Tryz.prog l fn tmps assign body W1.drew _ from ⟨hR.1, fun c cs _ => hR.2 c cs (room_wide _)⟩).mono ?_
      rintro e W' (⟨rfl, h1, h2, h3⟩ | ⟨rfl, h1, h3⟩)
      · exact ⟨true, rfl, Lib.hid ⟨h3, by rw [if_pos rfl]; exact ⟨h1, h2⟩⟩⟩
      · exact ⟨false, rfl, Lib.hid ⟨h3, by rw [if_neg (by simp)]; exact h1⟩⟩
    have HR := Lib.hid HR
    clear hR
    gi_wp2
    gi_region_with (first
      | (refine ⟨trivial, (fun h => by cases h), ?_⟩; gi_at_call 78; refine (CallsIn.inRound _ (HTr.out _)).mono ?_; rintro e w' ⟨rfl, rfl⟩)
      | (refine ⟨(fun h => by cases h), ?_⟩; refine HR.out.mono ?_; rintro e w' ⟨b, rfl, hpost⟩))
    all_goals
      have hKeep := Lib.hid hpost.out.1
      have hPost := Lib.hid hpost.out.2
      clear hpost HR HTr
      cases b with
      | true =>
        gi_wp2
        have h := hPost.out
        simp only [if_true] at h
        exact ⟨fun k hk => hKeep.out k (by omega) (by omega), hKeep.out _ (by omega) (by omega), h.1, (hKeep.out _ (Nat.le_refl _) (by omega)).trans hby, by omega⟩
      | false =>
        gi_wp2
        have h := hPost.out
        simp only [Bool.false_eq_true, if_false] at h
        exact ⟨fun k hk => hKeep.out k (by omega) (by omega), hKeep.out _ (by omega) (by omega), h⟩
  case done =>
    rintro xs W1 rfl ⟨hj, _, _⟩ hK
    gi_wp2
    refine ⟨by simp, .inl ⟨_, _, rfl, run_takeDeferred hK, ?_⟩⟩
    exact ⟨_, results_none rfl _ _ _, ⟨_, rfl⟩, .inl (hJ _ _ _ hj (OutR.put _ _ _ _ _ (by omega) (by omega)))⟩
  case stop =>
    rintro pre W1 hx hK
    gi_wp2
    refine ⟨by simp, .inl ⟨_, _, rfl, run_takeDeferred hK, ?_⟩⟩
    exact ⟨_, results_none rfl _ _ _, ⟨_, rfl⟩, .inr ⟨pre, hJx _ _ _ hx (OutR.put _ _ _ _ _ (by omega) (by omega))⟩⟩
end Go.Proofs.YtndojpcjhkncgaaGreatDoor.Q
end

section
namespace Go.Proofs.YtndojpcjhkncgaaGreatDoor.Q
open Go
set_option linter.unusedVariables false
set_option linter.unusedSimpArgs false
def hexB (b : UInt8) : Bool := ([48, 49, 50, 51, 52, 53, 54, 55, 56, 57, 97, 98, 99, 100, 101, 102] : List UInt8).contains b
def closedF (l : List UInt8) : Bool := decide (l.take 4 = [69, 78, 68, 32]) && (decide (l[12]? = some 32) && (decide (l[21]? = some 10) && (((l.drop 4).take 8 ++ (l.drop 13).take 8).all hexB)))
def formB (t : List UInt8) : Bool := decide (23 ≤ t.length) && (closedF (t.drop (t.length - 22)) && decide (t[t.length - 23]? = some 10))
def linesOf (t : List UInt8) : List (List UInt8) := wordsL 10 (t.take (t.length - 23))
def lineOk (w1 : List UInt8) (m1 : Nat) (w2 : List UInt8) (m2 : Nat) (pre : List (List UInt8)) (x : List UInt8) : Bool := if pre = [] then (scanF x w1 m1).isSome else (scanF x w2 m2).isSome
def allOk (ok : List (List UInt8) → List UInt8 → Bool) : List (List UInt8) → List (List UInt8) → Bool
  | _, [] => true
  | pre, x :: r => ok pre x && allOk ok (pre ++ [x]) r
def scansF (w : List UInt8) (m : Nat) : List (List UInt8) → Option (List (List Int))
  | [] => some []
  | l :: ls => match scanF l w m, scansF w m ls with | some r, some rs => some (r :: rs) | _, _ => none
def rowsF (w1 : List UInt8) (m1 : Nat) (w2 : List UInt8) (m2 : Nat) : List (List UInt8) → Option (List Int × List (List Int))
  | [] => none
  | l :: ls => match scanF l w1 m1, scansF w2 m2 ls with | some h, some rs => some (h, rs) | _, _ => none
theorem allOk_rest (w1 : List UInt8) (m1 : Nat) (w2 : List UInt8) (m2 : Nat) : ∀ (ls pre : List (List UInt8)), pre ≠ [] → allOk (lineOk w1 m1 w2 m2) pre ls = (scansF w2 m2 ls).isSome
  | [], pre, h => rfl
  | x :: r, pre, h => by
    rw [allOk, allOk_rest w1 m1 w2 m2 r (pre ++ [x]) (by simp), lineOk, if_neg h, scansF]
    cases scanF x w2 m2 <;> cases scansF w2 m2 r <;> rfl
theorem allOk_rows (w1 : List UInt8) (m1 : Nat) (w2 : List UInt8) (m2 : Nat) (l : List UInt8) (ls : List (List UInt8)) : allOk (lineOk w1 m1 w2 m2) [] (l :: ls) = (rowsF w1 m1 w2 m2 (l :: ls)).isSome := by
  rw [allOk, allOk_rest w1 m1 w2 m2 ls _ (by simp), lineOk, if_pos rfl, rowsF]
  cases scanF l w1 m1 <;> cases scansF w2 m2 ls <;> rfl
theorem scansF_snoc (w : List UInt8) (m : Nat) : ∀ (ls : List (List UInt8)) (x : List UInt8), scansF w m (ls ++ [x]) = match scansF w m ls, scanF x w m with | some rs, some r => some (rs ++ [r]) | _, _ => none
  | [], x => by
    show (match scanF x w m, scansF w m [] with | some r, some rs => some (r :: rs) | _, _ => none) = _
    rw [scansF]
    cases scanF x w m <;> rfl
  | l :: ls, x => by
    rw [List.cons_append, scansF, scansF_snoc w m ls x, scansF]
    cases scanF l w m <;> cases scansF w m ls <;> cases scanF x w m <;> rfl
theorem scanF_len (l word : List UInt8) (m : Nat) (ns : List Int) (h : scanF l word m = some ns) : ns.length = m := by
  unfold scanF at h
  split at h
  · split at h
    · rename_i hc
      rw [numsOf_len _ _ h, hc.2]
    · cases h
  · cases h
end Go.Proofs.YtndojpcjhkncgaaGreatDoor.Q
end

section
namespace Go.Proofs.YtndojpcjhkncgaaGreatDoor.Q
open Go Go.RowKit Go.Shelf Go.Proofs.YtndojpcjhkncgaaGreatDoorW.PrintWords
set_option linter.unusedVariables false
set_option linter.unusedSimpArgs false
theorem drop_all (p : UInt8 → Bool) : ∀ l : List UInt8, (l.dropWhile p).all p = true → l.all p = true
  | [], _ => rfl
  | a :: l, h => by
    by_cases ha : p a = true
    · rw [List.dropWhile_cons_of_pos ha] at h
      rw [List.all_cons, ha, drop_all p l h]
      rfl
    · rw [List.dropWhile_cons_of_neg ha, List.all_cons] at h
      simp [ha] at h
theorem trim_nil (l cs : List UInt8) : (Lib.trimS l cs = []) ↔ l.all (cs.contains ·) = true := by
  unfold Lib.trimS Lib.trimLeftS Lib.trimRightS
  constructor
  · intro h
    have h1 := drop_all (cs.contains ·) _ (by rw [h]; rfl)
    rw [List.all_reverse] at h1
    have h2 := drop_all (cs.contains ·) _ h1
    rwa [List.all_reverse] at h2
  · intro h
    have gen : ∀ l : List UInt8, l.all (cs.contains ·) = true → l.dropWhile (cs.contains ·) = [] := by
      intro l
      induction l with
      | nil => intro _; rfl
      | cons x l ih =>
        intro h
        rw [List.all_cons, Bool.and_eq_true] at h
        rw [List.dropWhile_cons_of_pos h.1]
        exact ih h.2
    have h1 : l.reverse.dropWhile (cs.contains ·) = [] := gen _ (by rw [List.all_reverse]; exact h)
    rw [h1]
    rfl
def hexS : ByteArray := ⟨#[48, 49, 50, 51, 52, 53, 54, 55, 56, 57, 97, 98, 99, 100, 101, 102]⟩
theorem trim_hex (s : ByteArray) (w : World) (hs : s.size ≤ 9223372036854775807) :
    Calls Tryz.prog 75 #[.string s, .string hexS] w fun e w' => e = .returned (.string ⟨(Lib.trimS s.data.toList hexS.data.toList).toArray⟩) ∧ Below w.heap.size w w' :=
  Any.strings_Trim_laid Tryz.lays160 (by kernel_rfl) s hexS w hs (by decide) (ascii_of_all (by decide))
theorem trim_all (s : ByteArray) : ((⟨(Lib.trimS s.data.toList hexS.data.toList).toArray⟩ : ByteArray).toList == []) = s.data.toList.all hexB := by
  rw [ByteArray.toList_eq, Bool.eq_iff_iff, beq_iff_eq]
  exact trim_nil _ _
theorem byte_at (s : ByteArray) (i : Nat) (h : i < s.size) (c : UInt8) : decide (s.data.toList[i]? = some c) = decide (((s[i]'h).toNat : Int) = (c.toNat : Int)) := by
  have h' : i < s.data.toList.length := h
  rw [List.getElem?_eq_getElem h', Bool.eq_iff_iff, decide_eq_true_iff, decide_eq_true_iff]
  show some (s[i]'h) = some c ↔ _
  rw [Option.some.injEq, Int.natCast_inj, UInt8.toNat_inj]
theorem closed_parts (s : ByteArray) (hs : s.size = 22) : closedF s.data.toList = (decide ((s.extract 0 4).toList = [69, 78, 68, 32]) && (decide (((s[12]'(by omega)).toNat : Int) = 32) && (!(((s[21]'(by omega)).toNat : Int) != 10) && (((s.data.toList.drop 4).take 8 ++ (s.data.toList.drop 13).take 8).all hexB)))) := by
  have e4 : (s.extract 0 4).toList = s.data.toList.take 4 := by rw [ByteArray.toList_eq, ByteArray.data_extract]; simp
  have h21 := byte_at s 21 (by omega) 10
  have e21 : (!(((s[21]'(by omega)).toNat : Int) != 10)) = decide (((s[21]'(by omega)).toNat : Int) = ((10 : UInt8).toNat : Int)) := by
    show (!(!(((s[21]'(by omega)).toNat : Int) == 10))) = _
    rw [Bool.not_not, Bool.eq_iff_iff, beq_iff_eq, decide_eq_true_iff]
    rfl
  unfold closedF
  rw [e4, byte_at s 12 (by omega) 32, h21, e21]
  rfl
set_option maxHeartbeats 1000000 in
theorem closed_go (s : ByteArray) (hs : s.size = 22) (w : World) :
    Calls Tryz.prog 65 #[.string s] w fun e w' => e = .returned (.bool (closedF s.data.toList)) ∧ Below w.heap.size w w' := by
  have hab : (s.extract 4 12 ++ s.extract 13 21).data.toList = (s.data.toList.drop 4).take 8 ++ (s.data.toList.drop 13).take 8 := by simp [ByteArray.data_extract, List.extract]
  have habs : (s.extract 4 12).size + (s.extract 13 21).size ≤ 9223372036854775807 := by simp; omega
  have hxs : (s.extract 4 12 ++ s.extract 13 21).size ≤ 9223372036854775807 := by rw [ByteArray.size_append]; exact habs
  obtain ⟨x, hx⟩ : ∃ x, x = s.extract 4 12 ++ s.extract 13 21 := ⟨_, rfl⟩
  rw [← hx] at hab hxs
  have hTr : ∀ w, Calls Tryz.prog 75 #[.string x, .string hexS] w fun e w' => ∃ y : ByteArray, e = .returned (.string y) ∧ Hid ((y.toList == []) = (((s.data.toList.drop 4).take 8 ++ (s.data.toList.drop 13).take 8).all hexB)) ∧ Below w.heap.size w w' := by
    intro w
    refine (trim_hex x w hxs).mono ?_
    rintro e w' ⟨rfl, hb⟩
    exact ⟨_, rfl, Lib.hid (by rw [trim_all, hab]), hb⟩
  have HT := Lib.hid hTr
  have HX := Lib.hid hx
  have HL := Lib.hid (show s.data.toList.length = 22 from hs)
  clear hx hab hxs hTr
  go_enter Tryz.func65, Tryz.ntmps65
  go_wp2_with fail
  · rename_i h4 h12 h21
    go_ret
    exact ⟨by rw [closed_parts s hs, h21]; simp, Below.refl _ _⟩
  · rename_i h4 h12 h21 K hK
    have H := Lib.hid (closed_parts s hs)
    rw [h21, decide_eq_true h4, decide_eq_true h12] at H
    clear h4 h12 h21
    go_region_with (go_at_call 75; rw [← HX.out]; refine (HT.out _).mono ?_; rintro e w' ⟨y, rfl, hy, hb⟩)
    go_wp2_with fail
    go_ret
    refine ⟨?_, (below_drew (Below.refl w.heap.size w)).trans hb⟩
    rw [H.out, ← hy.out]
    simp [Act.put]
  · rename_i h4 h12
    go_ret
    exact ⟨by rw [closed_parts s hs, decide_eq_false h12]; simp, Below.refl _ _⟩
  · rename_i h4
    go_ret
    exact ⟨by rw [closed_parts s hs, decide_eq_false h4]; simp, Below.refl _ _⟩
end Go.Proofs.YtndojpcjhkncgaaGreatDoor.Q
end

section
namespace Go.Proofs.YtndojpcjhkncgaaGreatDoor.Q
open Go Go.RowKit Go.Proofs.YtndojpcjhkncgaaGreatDoorW.PrintWords
set_option linter.unusedVariables false
set_option linter.unusedSimpArgs false
theorem setAll_both {B : Nat} : ∀ (l : List ((Nat × Nat) × Int)) {A C : World}, Below B A C → (∀ x ∈ l, x.1.1 < B) → Below B (setAll A l) (setAll C l)
  | [], _, _, h, _ => h
  | x :: l, _, _, h, hb => setAll_both l (below_set_both h ⟨x.1.1, x.1.2, none⟩ (hb x List.mem_cons_self) _) (fun y hy => hb y (List.mem_cons_of_mem _ hy))
abbrev payL : List UInt8 := [80, 65, 89]
abbrev orderW : List UInt8 := [111, 114, 100, 101, 114]
abbrev backL : List UInt8 := [66, 65, 67, 75]
abbrev returnW : List UInt8 := [114, 101, 116, 117, 114, 110]
set_option maxHeartbeats 1000000 in
theorem read1_go (l : List UInt8) (hl : l.length ≤ 1048576) (w0 w : World) (hG0 : GG w0) (hlow : Below w0.heap.size w0 w) (bf bc bs : Nat) (cf cc cs : Array Value) (tf tc ts : TypeId)
    (hf : w.heap[bf]? = some (.cells cf tf (0, 0))) (hc : w.heap[bc]? = some (.cells cc tc (0, 0))) (hs : w.heap[bs]? = some (.cells cs ts (0, 0))) (h1 : 1 < cf.size) (h2 : 0 < cc.size) (h3 : 0 < cs.size)
    (b1 : w0.heap.size ≤ bf) (b2 : w0.heap.size ≤ bc) (b3 : w0.heap.size ≤ bs) :
    Calls Tryz.prog 48 #[.string (Bt l), .pointer (some ⟨bf, 0, none⟩), .pointer (some ⟨bc, 0, none⟩), .pointer (some ⟨bs, 0, none⟩)] w fun e w' =>
      ∃ ms, e = .returned (.bool (scanF l payL 4).isSome) ∧ ms.length ≤ 4 ∧ (∀ ns, scanF l payL 4 = some ns → ms = ns) ∧ Below w.heap.size (setAll w ([(bf, 0), (bf, 1), (bc, 0), (bs, 0)].zip ms)) w' := by
  have lf := blk_lt hf
  have lc := blk_lt hc
  have ls := blk_lt hs
  have hS : Calls Tryz.prog 49 #[.string (Bt l), .string ⟨#[80, 65, 89]⟩, .slice (some ⟨w.heap.size, 0, none⟩) 4 4] (w.alloc (.cells #[.pointer (some ⟨bf, 0, none⟩), .pointer (some ⟨bf, 1, none⟩), .pointer (some ⟨bc, 0, none⟩), .pointer (some ⟨bs, 0, none⟩)] 90 (0, 0))) _ :=
    scan_go l payL hl [(bf, 0), (bf, 1), (bc, 0), (bs, 0)] (by show 4 ≤ 100; decide) w.heap.size w0 _ hG0 (below_alloc hlow _) (blk_new w _) (by
      intro p hp
      simp only [List.mem_cons, List.not_mem_nil, or_false] at hp
      rcases hp with rfl | rfl | rfl | rfl
      · exact ⟨by show bf ≠ w.heap.size; omega, b1, cf, tf, blk_alloc hf _, by show 0 < cf.size; omega⟩
      · exact ⟨by show bf ≠ w.heap.size; omega, b1, cf, tf, blk_alloc hf _, h1⟩
      · exact ⟨by show bc ≠ w.heap.size; omega, b2, cc, tc, blk_alloc hc _, h2⟩
      · exact ⟨by show bs ≠ w.heap.size; omega, b3, cs, ts, blk_alloc hs _, h3⟩)
  have HS := Lib.hid hS
  have HL := Lib.hid (And.intro lf (And.intro lc ls))
  clear hS hf hc hs lf lc ls
  go_enter Tryz.func48, Tryz.ntmps48
  go_wp2_with fail
  refine HS.out.mono ?_
  rintro e w' ⟨ms, rfl, hm1, hm2, hb⟩
  have HB := Lib.hid hb
  clear hb
  go_wp2_with fail
  go_ret
  refine ⟨ms, rfl, hm1, hm2, ?_⟩
  have h := below_alloc (Below.refl w.heap.size w) (.cells #[.pointer (some ⟨bf, 0, none⟩), .pointer (some ⟨bf, 1, none⟩), .pointer (some ⟨bc, 0, none⟩), .pointer (some ⟨bs, 0, none⟩)] 90 (0, 0))
  refine (setAll_both _ h (fun x hx => ?_)).trans (HB.out.mono (by simp))
  have hx := (List.of_mem_zip hx).1
  simp only [List.mem_cons, List.not_mem_nil, or_false] at hx
  have := HL.out
  rcases hx with e | e | e | e <;> rw [e] <;> omega
set_option maxHeartbeats 1000000 in
theorem answer1_go (l : List UInt8) (hl : l.length ≤ 1048576) (w0 w : World) (hG0 : GG w0) (hlow : Below w0.heap.size w0 w) (bf bc : Nat) (cf cc : Array Value) (tf tc : TypeId)
    (hf : w.heap[bf]? = some (.cells cf tf (0, 0))) (hc : w.heap[bc]? = some (.cells cc tc (0, 0))) (h1 : 1 < cf.size) (h2 : 0 < cc.size)
    (b1 : w0.heap.size ≤ bf) (b2 : w0.heap.size ≤ bc) :
    Calls Tryz.prog 51 #[.string (Bt l), .pointer (some ⟨bf, 0, none⟩), .pointer (some ⟨bc, 0, none⟩)] w fun e w' =>
      ∃ ms, e = .returned (.bool (scanF l backL 3).isSome) ∧ ms.length ≤ 3 ∧ (∀ ns, scanF l backL 3 = some ns → ms = ns) ∧ Below w.heap.size (setAll w ([(bf, 0), (bf, 1), (bc, 0)].zip ms)) w' := by
  have lf := blk_lt hf
  have lc := blk_lt hc
  have hS : Calls Tryz.prog 49 #[.string (Bt l), .string ⟨#[66, 65, 67, 75]⟩, .slice (some ⟨w.heap.size, 0, none⟩) 3 3] (w.alloc (.cells #[.pointer (some ⟨bf, 0, none⟩), .pointer (some ⟨bf, 1, none⟩), .pointer (some ⟨bc, 0, none⟩)] 90 (0, 0))) _ :=
    scan_go l backL hl [(bf, 0), (bf, 1), (bc, 0)] (by show 3 ≤ 100; decide) w.heap.size w0 _ hG0 (below_alloc hlow _) (blk_new w _) (by
      intro p hp
      simp only [List.mem_cons, List.not_mem_nil, or_false] at hp
      rcases hp with rfl | rfl | rfl
      · exact ⟨by show bf ≠ w.heap.size; omega, b1, cf, tf, blk_alloc hf _, by show 0 < cf.size; omega⟩
      · exact ⟨by show bf ≠ w.heap.size; omega, b1, cf, tf, blk_alloc hf _, h1⟩
      · exact ⟨by show bc ≠ w.heap.size; omega, b2, cc, tc, blk_alloc hc _, h2⟩)

  have HS := Lib.hid hS
  have HL := Lib.hid (And.intro lf lc)
  clear hS hf hc lf lc
  go_enter Tryz.func51, Tryz.ntmps51
  go_wp2_with fail
  refine HS.out.mono ?_
  rintro e w' ⟨ms, rfl, hm1, hm2, hb⟩
  have HB := Lib.hid hb
  clear hb
  go_wp2_with fail
  go_ret
  refine ⟨ms, rfl, hm1, hm2, ?_⟩
  have h := below_alloc (Below.refl w.heap.size w) (.cells #[.pointer (some ⟨bf, 0, none⟩), .pointer (some ⟨bf, 1, none⟩), .pointer (some ⟨bc, 0, none⟩)] 90 (0, 0))
  refine (setAll_both _ h (fun x hx => ?_)).trans (HB.out.mono (by simp))
  have hx := (List.of_mem_zip hx).1
  simp only [List.mem_cons, List.not_mem_nil, or_false] at hx
  have := HL.out
  rcases hx with e | e | e <;> rw [e] <;> omega
end Go.Proofs.YtndojpcjhkncgaaGreatDoor.Q
end

section
namespace Go.Proofs.YtndojpcjhkncgaaGreatDoor.Q
open Go Go.RowKit Go.Shelf Go.Proofs.YtndojpcjhkncgaaGreatDoorW.PrintWords
attribute [local go_sem] Oper.semAt_some
set_option linter.unusedVariables false
set_option linter.unusedSimpArgs false
structure OutN (B0 B1 : Nat) (A B : World) : Prop where
  os : B.os = A.os
  tape : B.tape = A.tape
  output : B.output = A.output
  size : A.heap.size ≤ B.heap.size
  same : ∀ k, k < A.heap.size → (k < B0 ∨ B1 ≤ k) → B.heap[k]? = A.heap[k]?
theorem OutR.toN {B0 B1 : Nat} {A B : World} (h : OutR B0 B1 A B) : OutN B0 B1 A B := ⟨h.os, h.tape, h.output, h.size, fun k _ hk => h.same k hk⟩
theorem OutN.of_below {A B : World} (B0 B1 : Nat) (h : Below A.heap.size A B) : OutN B0 B1 A B := ⟨h.os, h.tape, h.output, h.size, fun k hk _ => h.block k hk⟩
theorem store_func (P : Program) (w : World) (a : Addr) (m : Mode) (f : Fn) (ts cs : Array Value) : (store a (.func f ts cs) m).run P w = stored P w a (.func f ts cs) m := run_store P w a _ m rfl
attribute [local go_sem] store_func
theorem bankLines_make (s : ByteArray) (w : World) : Calls Tryz.prog 66 #[.string s] w fun e w' => e = .returned (.func (.func 76) #[] #[.pointer (some ⟨w.heap.size, 0, none⟩)]) ∧ w' = w.alloc (.cells #[.string s] 9 (0, 0)) := by
  go_enter Tryz.func66, Tryz.ntmps66
  go_wp2
  go_ret
  exact ⟨rfl, rfl⟩
theorem flatL_le (ps : List (List UInt8)) : ps.length ≤ (flatL ps).length := by
  induction ps with
  | nil => exact Nat.zero_le _
  | cons p ps ih =>
    unfold flatL at ih ⊢
    rw [List.flatMap_cons, List.length_append, List.length_append, List.length_cons, List.length_singleton]
    omega
theorem flatL_mid (pre rest : List (List UInt8)) (x : List UInt8) : pre.length ≤ (flatL (pre ++ x :: rest)).length ∧ x.length ≤ (flatL (pre ++ x :: rest)).length := by
  have h1 : (flatL (pre ++ x :: rest)).length = (flatL pre).length + (x.length + 1 + (flatL rest).length) := by unfold flatL; rw [List.flatMap_append, List.length_append, List.flatMap_cons, List.length_append, List.length_append]; rfl
  have h2 := flatL_le pre
  omega
theorem allOk_append (ok : List (List UInt8) → List UInt8 → Bool) : ∀ (a p b : List (List UInt8)), allOk ok p (a ++ b) = (allOk ok p a && allOk ok (p ++ a) b)
  | [], p, b => by rw [List.nil_append, List.append_nil]; rfl
  | x :: a, p, b => by rw [List.cons_append, allOk, allOk, allOk_append ok a (p ++ [x]) b, List.append_assoc, Bool.and_assoc]; rfl
def readC (ok : List (List UInt8) → List UInt8 → Bool) (t : List UInt8) : Int :=
  if 1048576 < t.length then 3 else if formB t = true then (if allOk ok [] (linesOf t) = true then (if t.drop (t.length - 22) = endL (t.take (t.length - 22)) then 0 else 361) else 360) else 360
theorem read_out (tmps : Array Value) (W : World) (r : Nat) (c : Int) (h : tmps[6]?.getD undef = .pointer (some ⟨r, 0, none⟩)) (hc : W.cell? ⟨r, 0, none⟩ = some (.int .i64 c)) : (results Tryz.f47 tmps).run Tryz.prog W = .ok (.int .i64 c) W := by
  have h0 : Tryz.f47.results = #[.cell 6 33] := rfl
  have hu := run_underlying Tryz.underlying33 W
  simp only [results, h0]
  simp [h, hc, hu, go_sem, loadVar, asAddr, Sem.run_bind, Result.andThen]
theorem read_leaves {n : Nat} {R : Ending → World → Prop} (tmps : Array Value) (W : World) (r : Nat) (c : Int) (h : tmps[6]?.getD undef = .pointer (some ⟨r, 0, none⟩)) (hc : W.cell? ⟨r, 0, none⟩ = some (.int .i64 c)) (hR : R (.returned (.int .i64 c)) W) :
    bodyPostM Fence.wide n Tryz.prog Tryz.f47 R Exit.ret { tmps := tmps, defers := [] } W := ⟨_, read_out tmps W r c h hc, hR⟩
def retOnly (Q : Exit → Act → World → Prop) : Exit → Act → World → Prop
  | .ret, a, w => Q .ret a w
  | _, _, _ => False
theorem retOnly_to {Q : Exit → Act → World → Prop} (e : Exit) (a : Act) (w : World) (h : retOnly Q e a w) : Q e a w := by
  cases e <;> first | exact h | exact False.elim h
set_option maxHeartbeats 2000000 in
set_option maxRecDepth 100000 in
theorem read_go (n : Nat) (t : List UInt8) (ht : t.length ≤ 4611686018427387904) (w0 w : World) (hG0 : GG w0) (hlow : Below w0.heap.size w0 w) (g1 g2 : Nat) (lb1 lb2 : Array Value)
    (en1 : ∀ args w, (callFunc g1 args).run Tryz.prog w = .ok (.enter g1 args) w) (en2 : ∀ args w, (callFunc g2 args).run Tryz.prog w = .ok (.enter g2 args) w)
    (ok : List (List UInt8) → List UInt8 → Bool) (I : Nat → List (List UInt8) → World → Prop)
    (hI0 : ∀ B1 W, w.heap.size ≤ B1 → Below w.heap.size w W → I B1 [] W) (hIs : ∀ B1 pre A B, I B1 pre A → OutN w.heap.size B1 A B → I B1 pre B) (hIl : ∀ B1 pre W, I B1 pre W → Below w0.heap.size w0 W)
    (hF : ∀ B1 pre x W, w.heap.size ≤ B1 → B1 ≤ W.heap.size → pre.length ≤ 1048576 → x.length ≤ 1048576 → I B1 pre W →
      Calls Tryz.prog (if pre = [] then g1 else g2) (#[.string (Bt x)] ++ (if pre = [] then lb1 else lb2)) W fun e W' => e = .returned (.bool (ok pre x)) ∧ (ok pre x = true → I B1 (pre ++ [x]) W') ∧ (∀ k, w.heap.size ≤ k → k < B1 → W'.heap[k]? = W.heap[k]?) ∧ Below w0.heap.size w0 W' ∧ W.heap.size ≤ W'.heap.size) :
    Calls Tryz.prog 47 #[.string (Bt t), .func (.func g1) #[] lb1, .func (.func g2) #[] lb2] w fun e w' => e = .returned (.int .i64 (readC ok t)) ∧ Below w0.heap.size w0 w' ∧ (readC ok t = 0 → ∃ B1, w.heap.size ≤ B1 ∧ I B1 (linesOf t) w') := by
  refine (callsIn_wide (n := n)).1 (callsIn_of_wp_marks Tryz.func47 rfl trivial (wpIn_mono ?_ retOnly_to) rfl)
  simp only [Tryz.ntmps47, List.size_toArray, List.length_cons, List.length_nil, Nat.reduceAdd, Nat.reduceSub, Array.replicate_succ, Array.replicate_zero, List.push_toArray, List.append_toArray, List.nil_append, List.cons_append]
  obtain ⟨S, hS⟩ : ∃ S, S = Bt t := ⟨_, rfl⟩
  rw [← hS]
  have hsz : S.size = t.length := by rw [hS, Bt_size]
  have hb2 : Below w.heap.size w ((w.alloc (.cells #[.func (.func g2) #[] lb2] 23 (0, 0))).alloc (.cells #[.int .i64 0] 33 (0, 0))) := ((Below.refl _ w).alloc (Nat.le_refl _) _).alloc (by simp) _
  have ho2 : ((w.alloc (.cells #[.func (.func g2) #[] lb2] 23 (0, 0))).alloc (.cells #[.int .i64 0] 33 (0, 0))).heap[w.heap.size]? = some (.cells #[.func (.func g2) #[] lb2] 23 (0, 0)) := blk_alloc (blk_new w _) _
  have hr2 : ((w.alloc (.cells #[.func (.func g2) #[] lb2] 23 (0, 0))).alloc (.cells #[.int .i64 0] 33 (0, 0))).heap[w.heap.size + 1]? = some (.cells #[.int .i64 0] 33 (0, 0)) := by
    have h := blk_new (w.alloc (.cells #[.func (.func g2) #[] lb2] 23 (0, 0))) (.cells #[.int .i64 0] 33 (0, 0))
    rwa [World.size_alloc] at h
  have hs2 : ((w.alloc (.cells #[.func (.func g2) #[] lb2] 23 (0, 0))).alloc (.cells #[.int .i64 0] 33 (0, 0))).heap.size = w.heap.size + 2 := by simp
  have hr2c := blk_cell hr2 0
  have hr2f := blk_frozen hr2 0
  have HS := Lib.hid hS
  have HB2 := Lib.hid hb2
  have HO2 := Lib.hid ho2
  have HR2 := Lib.hid hr2
  have HI0 := Lib.hid hI0
  have HIS := Lib.hid hIs
  have HIL := Lib.hid hIl
  have HF := Lib.hid hF
  have HG0 := Lib.hid hG0
  have HLow := Lib.hid hlow
  clear hS hb2 ho2 hr2 hI0 hIs hIl hF hG0 hlow
  by_cases hlong : 1048576 < t.length
  · have hC : readC ok t = 3 := by unfold readC; rw [if_pos hlong]
    rw [hC]
    have hd1 : decide ((1048576 : Int) < (S.size : Int)) = true := decide_eq_true (by omega)
    have hd2 : decide (1048576 < S.size) = true := decide_eq_true (by omega)
    clear hsz hC
    gi_wp2
    refine read_leaves _ _ (w.heap.size + 1) 3 rfl (blk_cell (cs := #[.int .i64 3]) (by rw [← World.size_alloc w (.cells #[.func (.func g2) #[] lb2] 23)]; exact blk_new _ _) 0) ⟨rfl, ?_, fun h => by cases h⟩
    exact HLow.out.trans ((((Below.refl w.heap.size w).alloc (Nat.le_refl _) _).alloc (by simp) _).mono HLow.out.size)
  · have hd1 : decide ((1048576 : Int) < (S.size : Int)) = false := decide_eq_false (by omega)
    have hd2 : decide (1048576 < S.size) = false := decide_eq_false (by omega)
    by_cases h23 : t.length < 23
    · have hC : readC ok t = 360 := by unfold readC formB; rw [if_neg hlong, decide_eq_false (by omega)]; rfl
      rw [hC]
      have hd3 : decide ((S.size : Int) - 22 < 1) = true := decide_eq_true (by omega)
      have hw : wrap64 ((S.size : Int) - 22) = (S.size : Int) - 22 := IntWalk.wrap64_in _ ⟨by omega, by omega⟩
      clear hsz hC
      gi_wp2
      refine ⟨trivial, ?_⟩
      gi_wp2
      refine read_leaves _ _ (w.heap.size + 1) 360 rfl (blk_cell (cs := #[.int .i64 360]) (by rw [← World.size_alloc w (.cells #[.func (.func g2) #[] lb2] 23)]; exact blk_new _ _) 0) ⟨rfl, ?_, fun h => by cases h⟩
      exact HLow.out.trans ((((Below.refl w.heap.size w).alloc (Nat.le_refl _) _).alloc (by simp) _).mono HLow.out.size)
    · obtain ⟨q, hq⟩ : ∃ q, t.length = q + 23 := ⟨t.length - 23, by omega⟩
      obtain ⟨N, hN⟩ : ∃ N : Int, N = (S.size : Int) := ⟨_, rfl⟩
      have hw : wrap64 ((S.size : Int) - 22) = (q : Int) + 1 := by rw [IntWalk.wrap64_in _ ⟨by omega, by omega⟩]; omega
      have hw2 : wrap64 ((q : Int) + 1 - 1) = (q : Int) := by rw [IntWalk.wrap64_in _ ⟨by omega, by omega⟩]; omega
      have hd3 : decide ((q : Int) + 1 < 1) = false := decide_eq_false (by omega)
      have hx22 : (S.extract (q + 1) S.size).size = 22 := by simp; omega
      have HCl := Lib.hid (closed_go (S.extract (q + 1) S.size) hx22)
      have k1 : q < S.size := by omega
      have k2 : (q : Int) < (S.size : Int) := by omega
      have k3 : (q : Int) + 1 ≤ (S.size : Int) := by omega
      have k4 : q + 1 ≤ S.size := by omega
      have HSZ := Lib.hid hsz
      have HQ := Lib.hid hq
      clear hx22 hsz hq hN hlong h23
      gi_wp2
      refine ⟨trivial, (fun h => by cases h), (callsIn_wide.2 (HCl.out _)).mono ?_⟩
      rintro e w3 ⟨rfl, hb3⟩
      have hb3' := below_then HB2.out (by rw [hs2]; omega) hb3
      have ho3 := (hb3.block w.heap.size (by rw [hs2]; omega)).trans HO2.out
      have hr3 := (hb3.block (w.heap.size + 1) (by rw [hs2]; omega)).trans HR2.out
      have hs3 : w.heap.size + 2 ≤ w3.heap.size := by have := hb3.size; rw [hs2] at this; exact this
      have hr3c : w3.cell? ⟨w.heap.size + 1, 0, none⟩ = some (.int .i64 0) := blk_cell hr3 0
      have hr3f : w3.frozen? ⟨w.heap.size + 1, 0, none⟩ = false := blk_frozen hr3 0
      obtain ⟨cl, hcl⟩ : ∃ cl, cl = closedF (S.extract (q + 1) S.size).data.toList := ⟨_, rfl⟩
      rw [← hcl]
      have HCL := Lib.hid (show cl = closedF (t.drop (t.length - 22)) by
        rw [hcl]
        congr 1
        have h1 := HQ.out
        have h2 := HSZ.out
        rw [h2, HS.out, show t.length - 22 = q + 1 by omega]
        have h3 : List.take (t.length - (q + 1)) (List.drop (q + 1) t) = List.drop (q + 1) t := List.take_of_length_le (by rw [List.length_drop]; omega)
        simp [ByteArray.data_extract, List.extract, Bt, h3])
      have HB3 := Lib.hid hb3'
      have HO3 := Lib.hid ho3
      have HR3 := Lib.hid hr3
      clear hr2c hr2f hb3 hb3' ho3 hr3 hcl HB2 HO2 HR2 hs2 HCl
      cases cl with
      | false =>
        gi_wp2
        have hC : readC ok t = 360 := by
          unfold readC formB
          rw [← HCL.out]
          split
          · have := HQ.out
            have := HSZ.out
            have := of_decide_eq_false hd2
            omega
          · simp
        refine read_leaves _ _ (w.heap.size + 1) 360 rfl (blk_cell (blk_put HR3.out 0 (.int .i64 360) rfl) 0) ⟨by rw [hC], ?_, fun h => by rw [hC] at h; cases h⟩
        exact (HLow.out.trans (HB3.out.mono HLow.out.size)).setCell (p := ⟨w.heap.size + 1, 0, none⟩) (by have := HLow.out.size; show w0.heap.size ≤ w.heap.size + 1; omega) _
      | true =>
        have k0 : (0 : Int) ≤ (q : Int) := by omega
        have hwq : wrap64 (q : Int) = (q : Int) := by have := HQ.out; exact IntWalk.wrap64_in _ ⟨by omega, by omega⟩
        have hby : decide (t[q]? = some 10) = !(((S[q]'k1).toNat : Int) != 10) := by
          have h := byte_at S q k1 10
          have hd : S.data.toList = t := by rw [HS.out]; unfold Bt; simp
          rw [hd] at h
          rw [h]
          show _ = !(!(((S[q]'k1).toNat : Int) == 10))
          rw [Bool.not_not, Bool.eq_iff_iff, decide_eq_true_iff, beq_iff_eq]
          rfl
        obtain ⟨b10, h10⟩ : ∃ b, (((S[q]'k1).toNat : Int) != 10) = b := ⟨_, rfl⟩
        rw [h10] at hby
        have HBY := Lib.hid hby
        clear hby
        cases b10 with
        | true =>
          gi_wp2
          have hC : readC ok t = 360 := by
            have h1 := HQ.out
            unfold readC formB
            rw [show t.length - 23 = q by omega, HBY.out]
            split
            · have := HSZ.out
              have := of_decide_eq_false hd2
              omega
            · simp
          refine read_leaves _ _ (w.heap.size + 1) 360 rfl (blk_cell (blk_put HR3.out 0 (.int .i64 360) rfl) 0) ⟨by rw [hC], ?_, fun h => by rw [hC] at h; cases h⟩
          exact (HLow.out.trans (HB3.out.mono HLow.out.size)).setCell (p := ⟨w.heap.size + 1, 0, none⟩) (by have := HLow.out.size; show w0.heap.size ≤ w.heap.size + 1; omega) _
        | false =>
          have hnc : (w3.alloc (.cells #[.nilFunc] 23 (0, 0))).cell? ⟨w3.heap.size, 0, none⟩ = some .nilFunc := blk_cell (blk_new w3 _) 0
          have hnf : (w3.alloc (.cells #[.nilFunc] 23 (0, 0))).frozen? ⟨w3.heap.size, 0, none⟩ = false := blk_frozen (blk_new w3 _) 0
          gi_wp2
          refine ⟨trivial, (fun h => by cases h), (callsIn_wide.2 (bankLines_make _ _)).mono ?_⟩
          rintro e w5 ⟨rfl, hw5⟩
          obtain ⟨H, hH⟩ : ∃ H, H = w3.heap.size := ⟨_, rfl⟩
          have hfl : flatL (linesOf t) = t.take (q + 1) := by
            have h1 := HQ.out
            have h2 : t[q]? = some 10 := of_decide_eq_true (by rw [HBY.out]; rfl)
            unfold flatL linesOf
            rw [words_flat, show t.length - 23 = q by omega, List.take_add_one, h2]
            rfl
          have hex : S.extract 0 (q + 1) = Bt (flatL (linesOf t)) := by
            rw [hfl, HS.out]
            unfold Bt
            apply ByteArray.ext
            simp [ByteArray.data_extract, List.extract]
          have hb5 : Below w3.heap.size w3 w5 := by rw [hw5]; exact ((Below.refl _ w3).alloc (Nat.le_refl _) _).alloc (by simp) _
          have hh5 : w5.heap[H]? = some (.cells #[.func (.func g1) #[] lb1] 23 (0, 0)) := by rw [hw5, hH]; exact blk_alloc (blk_new w3 _) _
          have ht5 : w5.heap[H + 1]? = some (.cells #[.string (Bt (flatL (linesOf t)))] 9 (0, 0)) := by
            have h := blk_new (w3.alloc (.cells #[.func (.func g1) #[] lb1] 23 (0, 0))) (.cells #[.string (S.extract 0 (q + 1))] 9 (0, 0))
            rw [World.size_alloc, ← hH, ← hw5, hex] at h
            exact h
          have hs5 : w5.heap.size = H + 2 := by rw [hw5, hH]; simp
          have hsz5 : (w3.alloc (.cells #[.func (.func g1) #[] lb1] 23 (0, 0))).heap.size = H + 1 := by rw [hH]; simp
          rw [hsz5]
          have HB5 := Lib.hid (below_then HB3.out (HB3.out.size) hb5)
          have HO5 := Lib.hid ((hb5.block _ (by omega)).trans HO3.out)
          have HR5 := Lib.hid ((hb5.block _ (by omega)).trans HR3.out)
          have HH5 := Lib.hid hh5
          have HT5 := Lib.hid ht5
          have HS5 := Lib.hid hs5
          have HH := Lib.hid hH
          have HFL := Lib.hid hfl
          have hHge : w.heap.size + 2 ≤ H := by omega
          clear hw5 hb5 hh5 ht5 hs5 hsz5 hex hfl hr3c hr3f HO3 HR3 hnc hnf hH
          gi_wp2
          refine range_law (gf := 76) (lb := #[.pointer (some ⟨H + 1, 0, none⟩)]) rfl (enters_of Tryz.func76 (by kernel_rfl) rfl) (fun x : List UInt8 => #[.string (Bt x)]) (fun _ => rfl)
            (fun pre x => ∃ rest, linesOf t = pre ++ x :: rest) (fun xs => xs = linesOf t) (fun W1 => H + 8 ≤ W1.heap.size)
            (fun A B => OutR (H + 4) (H + 8) A B) (fun A B => A.heap.size ≤ B.heap.size ∧ ∀ k, H + 4 ≤ k → k < H + 8 → B.heap[k]? = A.heap[k]?)
            ?seq ?St ?Kt ?Kr ?Ex
            (fun pre W1 => I (H + 8) pre W1 ∧ allOk ok [] pre = true ∧ W1.heap[w.heap.size]? = some (.cells #[.func (.func g2) #[] lb2] 23 (0, 0)) ∧ W1.heap[w.heap.size + 1]? = some (.cells #[.int .i64 0] 33 (0, 0)) ∧ W1.heap[H]? = some (.cells #[if pre = [] then .func (.func g1) #[] lb1 else .func (.func g2) #[] lb2] 23 (0, 0)))
            (fun _ W1 => allOk ok [] (linesOf t) = false ∧ Below w0.heap.size w0 W1 ∧ W1.heap[w.heap.size + 1]? = some (.cells #[.int .i64 360] 33 (0, 0)))
            ?I0 ?Is ?Xs ?Ir ?Xr ?a1 ?assign ?body ?done ?stop
          case assign =>
            intro x W K hK
            gi_wp2
            exact hK
          case seq =>
            intro J Jx W1 hlow1 hsz1 hst hstx hy h0
            rw [HS5.out] at hsz1 hy
            have e1 : W1.heap.size = H + 4 := by omega
            refine (bankLines1_in (n - 1) (w5.heap.size + 1) (H + 1) (linesOf t) (fun p hp => words_no 10 _ p hp) (by rw [HFL.out, List.length_take]; omega) W1 J Jx (fun pre A B h ho => hst pre A B h (by rw [e1] at ho; exact ho)) ?_ (fun pre A B h ho => hstx pre A B h (by rw [e1] at ho; exact ho)) (blk_below HT5.out hlow1) h0).mono ?_
            · intro pre x rest W2 hp hj hsz2
              rw [e1] at hsz2
              rw [HS5.out]
              refine yield_any (YieldAt.mono (hy pre x W2 ⟨rest, hp⟩ hj hsz2) ?_)
              rintro e W' (⟨rfl, h1, h2, h3⟩ | ⟨rfl, h1, h2, h3⟩)
              · exact .inl ⟨rfl, h1, h2, by rw [e1]; exact h3⟩
              · exact .inr ⟨rfl, h1, by rw [e1]; exact h3⟩
            · rintro e W' ⟨hv, hj | hx⟩
              · exact ⟨hv, .inl ⟨_, rfl, hj⟩⟩
              · exact ⟨hv, .inr hx⟩
          case St =>
            intro A B h k hk
            rw [HS5.out] at hk
            exact h.same k (by omega)
          case Kt =>
            rintro A B C ⟨h1, h2⟩ ⟨h3, h4⟩
            exact ⟨Nat.le_trans h1 h3, fun k ha hb => (h4 k ha hb).trans (h2 k ha hb)⟩
          case Kr =>
            intro W1 o
            exact ⟨by simp, fun k ha hb => World.putObj_heap_other (by rw [HS5.out]; omega)⟩
          case Ex =>
            intro W1 o h
            simpa using h
          case I0 =>
            intro W1 hlow1 hsz1
            have hb := below_then HB5.out (by have := HS5.out; omega) hlow1
            refine ⟨HI0.out _ _ (by omega) hb, rfl, blk_below HO5.out hlow1, blk_below HR5.out hlow1, ?_⟩
            rw [if_pos rfl]
            exact blk_below HH5.out hlow1
          case Is =>
            rintro pre A B ⟨h1, h2, h3, h4, h5⟩ hs
            exact ⟨HIS.out _ _ _ _ h1 ⟨hs.os, hs.tape, hs.output, hs.size, fun k _ hk => hs.same k (by omega)⟩, h2, (hs.same _ (by omega)).trans h3, (hs.same _ (by omega)).trans h4, (hs.same _ (by omega)).trans h5⟩
          case Xs =>
            rintro pre A B ⟨h1, h2, h3⟩ hs
            have hw := HLow.out.size
            exact ⟨h1, h2.trans ⟨hs.os, hs.tape, hs.output, hs.size, fun k hk => hs.same k (by omega)⟩, (hs.same _ (by omega)).trans h3⟩
          case Ir =>
            rintro pre W1 o ⟨h1, h2, h3, h4, h5⟩
            have e := HS5.out
            exact ⟨HIS.out _ _ _ _ h1 (OutR.put _ _ _ _ _ (by omega) (by omega)).toN, h2, (World.putObj_heap_other (by omega)).trans h3, (World.putObj_heap_other (by omega)).trans h4, (World.putObj_heap_other (by omega)).trans h5⟩
          case Xr =>
            rintro pre W1 o ⟨h1, h2, h3⟩
            have e := HS5.out
            have hw := HLow.out.size
            exact ⟨h1, h2.trans ⟨rfl, rfl, rfl, by simp, fun k hk => World.putObj_heap_other (by omega)⟩, (World.putObj_heap_other (by omega)).trans h3⟩
          case body =>
            rintro pre x W1 ⟨rest, hp⟩ ⟨h1, h2, h3, h4, h5⟩ hsz1 hlt1
            have e5 := HS5.out
            have hwl := HLow.out.size
            obtain ⟨hpl, hxl⟩ := flatL_mid pre rest x
            rw [← hp, HFL.out, List.length_take] at hpl hxl
            have h48 := of_decide_eq_false hd2
            have hlt2 : t.length ≤ 1048576 := by have := HSZ.out; omega
            have hCl := HF.out (H + 8) pre x W1 (by omega) hsz1 (by omega) (by omega) h1
            obtain ⟨g, hg⟩ : ∃ g, g = if pre = [] then g1 else g2 := ⟨_, rfl⟩
            obtain ⟨lb, hlb⟩ : ∃ lb, lb = if pre = [] then lb1 else lb2 := ⟨_, rfl⟩
            have heng : ∀ args w, (callFunc g args).run Tryz.prog w = .ok (.enter g args) w := by rw [hg]; split; exact en1; exact en2
            have hfv : (if pre = [] then Value.func (.func g1) #[] lb1 else .func (.func g2) #[] lb2) = .func (.func g) #[] lb := by rw [hg, hlb]; split <;> rfl
            rw [hfv] at h5
            rw [← hg, ← hlb] at hCl
            have c8 : W1.cell? ⟨w3.heap.size, 0, none⟩ = some (.func (.func g) #[] lb) := by rw [← HH.out]; exact blk_cell h5 0
            have HCall := Lib.hid hCl
            have HW := Lib.hid (And.intro h2 (And.intro h3 (And.intro h4 h5)))
            have HP := Lib.hid hp
            have HE5 := Lib.hid e5
            have HB := Lib.hid (And.intro hwl (And.intro hsz1 (And.intro hlt1 hHge)))
            clear hCl h1 h2 h3 h4 h5 hp e5 hwl hsz1 hlt1 hHge hpl hxl h48 hlt2 hg hlb hfv en1 en2
            gi_wp2
            refine ⟨trivial, (fun h => by cases h), (CallsIn.inRound _ (callsIn_wide.2 HCall.out)).mono ?_⟩
            rintro e W2 ⟨rfl, hi2, hk2, hl2, hs2⟩
            have hB := HB.out
            have hr2 := (hk2 (w.heap.size + 1) (by omega) (by omega)).trans HW.out.2.2.1
            have ho2 := (hk2 w.heap.size (Nat.le_refl _) (by omega)).trans HW.out.2.1
            have hh2 := (hk2 H (by omega) (by omega)).trans HW.out.2.2.2
            have cr2 : W2.cell? ⟨w.heap.size + 1, 0, none⟩ = some (.int .i64 0) := blk_cell hr2 0
            have fr2 : W2.frozen? ⟨w.heap.size + 1, 0, none⟩ = false := blk_frozen hr2 0
            have co2 : W2.cell? ⟨w.heap.size, 0, none⟩ = some (.func (.func g2) #[] lb2) := blk_cell ho2 0
            have ch2 : W2.cell? ⟨w3.heap.size, 0, none⟩ = some (.func (.func g) #[] lb) := by rw [← HH.out]; exact blk_cell hh2 0
            have fh2 : W2.frozen? ⟨w3.heap.size, 0, none⟩ = false := by rw [← HH.out]; exact blk_frozen hh2 0
            have HR2 := Lib.hid hr2
            have HO2 := Lib.hid ho2
            have HH2 := Lib.hid hh2
            have HI2 := Lib.hid hi2
            have HK2 := Lib.hid hk2
            have HL2 := Lib.hid (And.intro hl2 hs2)
            obtain ⟨b1, hb1⟩ : ∃ b, b = ok pre x := ⟨_, rfl⟩
            rw [← hb1]
            have HB1 := Lib.hid hb1
            clear hr2 ho2 hh2 hi2 hk2 hl2 hs2 hB hb1 c8 heng
            cases b1 with
            | false =>
              gi_wp2
              have hB := HB.out
              have hE := HE5.out
              refine ⟨fun k hk => (Below.heap_setCell _ _ _ _ (by show k ≠ w.heap.size + 1; omega)).trans (HK2.out k (by omega) (by omega)), ⟨by simpa [World.setCell] using HL2.out.2, fun k ha hb => (Below.heap_setCell _ _ _ _ (by show k ≠ w.heap.size + 1; omega)).trans (HK2.out k (by omega) (by omega))⟩, ?_, ?_, blk_put HR2.out 0 (.int .i64 360) rfl⟩
              · rw [HP.out, allOk_append, HW.out.1, List.nil_append, allOk, ← HB1.out]
                rfl
              · exact HL2.out.1.setCell (p := ⟨w.heap.size + 1, 0, none⟩) (by show w0.heap.size ≤ w.heap.size + 1; omega) _
            | true =>
              gi_wp2
              have hB := HB.out
              have hE := HE5.out
              have hHH := HH.out
              rw [← HH.out]
              have hset : ∀ k, k ≠ H → (W2.setCell ⟨H, 0, none⟩ (.func (.func g2) #[] lb2)).heap[k]? = W2.heap[k]? := fun k hk => Below.heap_setCell _ _ _ _ hk
              refine ⟨fun k hk => (hset k (by omega)).trans (HK2.out k (by omega) (by omega)), ⟨by simpa [World.setCell] using HL2.out.2, fun k ha hb => (hset k (by omega)).trans (HK2.out k (by omega) (by omega))⟩, ?_, ?_, (hset _ (by omega)).trans HO2.out, (hset _ (by omega)).trans HR2.out, ?_⟩
              · exact HIS.out _ _ _ _ (HI2.out HB1.out.symm) (OutR.set _ _ _ _ _ _ (by omega) (by omega)).toN
              · rw [allOk_append, HW.out.1, List.nil_append, allOk, ← HB1.out]
                rfl
              · rw [if_neg (by simp)]
                exact blk_put HH2.out 0 _ rfl
          case done =>
            rintro xs W1 rfl ⟨h1, h2, h3, h4, h5⟩ hK
            have hxs : S.extract 0 (q + 1) = B (t.take (q + 1)) := by
              rw [HS.out]
              unfold Bt B
              apply ByteArray.ext
              simp [ByteArray.data_extract, List.extract]
            have hzs : (S.extract (q + 1) S.size).toList = t.drop (t.length - 22) := by
              have h1 := HQ.out
              rw [HS.out, Bt_size, show t.length - 22 = q + 1 by omega, ByteArray.toList_eq]
              have h3 : List.take (t.length - (q + 1)) (List.drop (q + 1) t) = List.drop (q + 1) t := List.take_of_length_le (by rw [List.length_drop]; omega)
              simp [ByteArray.data_extract, List.extract, Bt, h3]
            have hlt2 : t.length ≤ 1048576 := by have := HSZ.out; have := of_decide_eq_false hd2; omega
            obtain ⟨kk, hkk⟩ := bankEnd_ev (t.take (q + 1)) (by rw [List.length_take]; omega)
            obtain ⟨eq, heq⟩ : ∃ eq, eq = decide (t.drop (t.length - 22) = endL (t.take (t.length - 22))) := ⟨_, rfl⟩
            have hEnd : ∀ W', GG W' → Calls Tryz.prog 64 #[.string (S.extract 0 (q + 1))] W' fun e w' => ∃ y : ByteArray, e = .returned (.string y) ∧ ((S.extract (q + 1) S.size).toList == y.toList) = eq ∧ Below W'.heap.size W' w' := fun W' hG' => by
              rw [hxs]
              refine (bank_end.calls kk _ _ W' hG' (hkk kk (Nat.le_refl _))).mono ?_
              rintro e w' ⟨rfl, hb⟩
              refine ⟨_, rfl, ?_, hb⟩
              have h1 := HQ.out
              rw [hzs, B_list, heq, show t.length - 22 = q + 1 by omega, Bool.eq_iff_iff, beq_iff_eq, decide_eq_true_iff]
            have hC : readC ok t = if eq = true then 0 else 361 := by
              have h1 := HQ.out
              unfold readC
              rw [if_neg (by omega), if_pos (by unfold formB; rw [← HCL.out, show t.length - 23 = q by omega, HBY.out]; simp; omega), if_pos h2, heq]
              by_cases hh : t.drop (t.length - 22) = endL (t.take (t.length - 22))
              · rw [if_pos hh, decide_eq_true hh, if_pos rfl]
              · rw [if_neg hh, decide_eq_false hh, if_neg (by simp)]
            have HEnd := Lib.hid hEnd
            have HC := Lib.hid hC
            have HW := Lib.hid (And.intro h1 (And.intro h4 hK))
            have HGW := Lib.hid (HG0.out.below (HIL.out _ _ _ h1))
            have k5 : (0 : Int) ≤ (q : Int) + 1 := by omega
            have hw1l := Array.getElem?_eq_some_iff.1 hK |>.1
            have hr1c : W1.drew.cell? ⟨w.heap.size + 1, 0, none⟩ = some (.int .i64 0) := blk_cell (blk_drew h4) 0
            clear hxs hzs hkk heq hEnd hC h1 h2 h3 h4 h5 hK hlt2
            gi_wp2
            gi_region_with (first | (refine ⟨trivial, (fun h => by cases h), ?_⟩; gi_at_call 64; refine (callsIn_wide.2 (HEnd.out _ (HGW.out.below (below_drew (Below.refl _ _))))).mono ?_; rintro e w' ⟨y, rfl, hy, hb⟩))
            all_goals
              have hb' := (below_drew (Below.refl W1.heap.size W1)).trans hb
              have hr2 := (hb'.block _ (by have := HH.out; have := HS5.out; omega)).trans HW.out.2.1
              have hk2 := (hb'.block _ hw1l).trans HW.out.2.2
              have cr2 : w'.cell? ⟨w.heap.size + 1, 0, none⟩ = some (.int .i64 0) := blk_cell hr2 0
              have fr2 : w'.frozen? ⟨w.heap.size + 1, 0, none⟩ = false := blk_frozen hr2 0
              have HI2 := Lib.hid (HIS.out _ _ _ _ HW.out.1 (OutN.of_below w.heap.size (H + 8) hb'))
              have HR2 := Lib.hid hr2
              have HK2 := Lib.hid hk2
              clear hb hb' hr2 hk2 hr1c
              cases eq with
              | false =>
                gi_wp2
                have hwl := HLow.out.size
                have e5 := HS5.out
                have hC : readC ok t = 361 := HC.out
                refine ⟨by simp, .inl ⟨_, _, rfl, run_takeDeferred ((Below.heap_setCell _ _ _ _ (by show w5.heap.size ≠ w.heap.size + 1; omega)).trans HK2.out), ?_⟩⟩
                refine ⟨_, read_out _ _ (w.heap.size + 1) 361 rfl (blk_cell ((World.putObj_heap_other (by omega)).trans (blk_put HR2.out 0 (.int .i64 361) rfl)) 0), by rw [hC], ?_, fun h => by rw [hC] at h; cases h⟩
                exact ((HIL.out _ _ _ HI2.out).setCell (p := ⟨w.heap.size + 1, 0, none⟩) (by show w0.heap.size ≤ w.heap.size + 1; omega) _).trans ⟨rfl, rfl, rfl, by simp, fun k hk => World.putObj_heap_other (by omega)⟩
              | true =>
                gi_wp2
                have hwl := HLow.out.size
                have e5 := HS5.out
                have hC : readC ok t = 0 := HC.out
                refine ⟨by simp, .inl ⟨_, _, rfl, run_takeDeferred ((Below.heap_setCell _ _ _ _ (by show w5.heap.size ≠ w.heap.size + 1; omega)).trans HK2.out), ?_⟩⟩
                refine ⟨_, read_out _ _ (w.heap.size + 1) 0 rfl (blk_cell ((World.putObj_heap_other (by omega)).trans (blk_put HR2.out 0 (.int .i64 0) rfl)) 0), by rw [hC], ?_, fun _ => ⟨H + 8, by omega, ?_⟩⟩
                · exact ((HIL.out _ _ _ HI2.out).setCell (p := ⟨w.heap.size + 1, 0, none⟩) (by show w0.heap.size ≤ w.heap.size + 1; omega) _).trans ⟨rfl, rfl, rfl, by simp, fun k hk => World.putObj_heap_other (by omega)⟩
                · exact HIS.out _ _ _ _ (HIS.out _ _ _ _ HI2.out (OutR.set _ _ _ _ _ _ (by omega) (by omega)).toN) (OutR.put _ _ _ _ _ (by omega) (by omega)).toN
          case stop =>
            rintro pre W1 ⟨h1, h2, h3⟩ hK
            gi_wp2
            have hwl := HLow.out.size
            have e5 := HS5.out
            have hC : readC ok t = 360 := by
              unfold readC
              rw [h1]
              split
              · have := HSZ.out
                have := of_decide_eq_false hd2
                omega
              · simp
            refine ⟨by simp, .inl ⟨_, _, rfl, run_takeDeferred hK, ?_⟩⟩
            refine ⟨_, read_out _ _ (w.heap.size + 1) 360 rfl (blk_cell ((World.putObj_heap_other (by omega)).trans h3) 0), by rw [hC], ?_, fun h => by rw [hC] at h; cases h⟩
            exact h2.trans ⟨rfl, rfl, rfl, by simp, fun k hk => World.putObj_heap_other (by omega)⟩
end Go.Proofs.YtndojpcjhkncgaaGreatDoor.Q
end

section
namespace Go.Proofs.YtndojpcjhkncgaaGreatDoor.Q
open Go
set_option linter.unusedVariables false
set_option linter.unusedSimpArgs false
def sA : List UInt8 → Nat
  | [] => 0
  | c :: l => c.toNat + sA l
def sW : Nat → List UInt8 → Nat
  | _, [] => 0
  | i, c :: l => (i + 1) * c.toNat + sW (i + 1) l
theorem sums_eq : ∀ (l : List UInt8) (i a w : Nat), a < 4294967296 → w < 4294967296 → sums i a w l = ((a + sA l) % 4294967296, (w + sW i l) % 4294967296)
  | [], i, a, w, ha, hw => by
    unfold sums sA sW
    rw [Nat.add_zero, Nat.add_zero, Nat.mod_eq_of_lt ha, Nat.mod_eq_of_lt hw]
  | c :: l, i, a, w, ha, hw => by
    unfold sums sA sW
    rw [sums_eq l (i + 1) _ _ (Nat.mod_lt _ (by omega)) (Nat.mod_lt _ (by omega)), Nat.mod_add_mod, Nat.mod_add_mod, Nat.add_assoc, Nat.add_assoc]
theorem sums0 (l : List UInt8) : sums 0 0 0 l = (sA l % 4294967296, sW 0 l % 4294967296) := by
  rw [sums_eq l 0 0 0 (by omega) (by omega), Nat.zero_add, Nat.zero_add]
theorem end_fields (l : List UInt8) : ((endL l).drop 4).take 8 = hex8 (sA l % 4294967296) ∧ ((endL l).drop 13).take 8 = hex8 (sW 0 l % 4294967296) ∧ (endL l)[0]? = some 69 := by
  have h1 := hex8_len (sA l % 4294967296) (Nat.mod_lt _ (by omega))
  have h2 := hex8_len (sW 0 l % 4294967296) (Nat.mod_lt _ (by omega))
  unfold endL
  rw [sums0]
  show ((([69, 78, 68, 32] ++ hex8 (sA l % 4294967296) ++ [32] ++ hex8 (sW 0 l % 4294967296) ++ [10]).drop 4).take 8 = _) ∧ ((([69, 78, 68, 32] ++ hex8 (sA l % 4294967296) ++ [32] ++ hex8 (sW 0 l % 4294967296) ++ [10]).drop 13).take 8 = _) ∧ _
  generalize hex8 (sA l % 4294967296) = x at h1 ⊢
  generalize hex8 (sW 0 l % 4294967296) = y at h2 ⊢
  refine ⟨?_, ?_, rfl⟩
  · have e : (([69, 78, 68, 32] : List UInt8) ++ (x ++ ([32] ++ y ++ [10]))).drop 4 = x ++ ([32] ++ y ++ [10]) := List.drop_left' rfl
    rw [show [69, 78, 68, 32] ++ x ++ [32] ++ y ++ [10] = [69, 78, 68, 32] ++ (x ++ ([32] ++ y ++ [10])) by simp, e, List.take_left' h1]
  · have e : ((([69, 78, 68, 32] : List UInt8) ++ x ++ [32]) ++ (y ++ [10])).drop 13 = y ++ [10] := List.drop_left' (by simp [h1])
    rw [show [69, 78, 68, 32] ++ x ++ [32] ++ y ++ [10] = ([69, 78, 68, 32] ++ x ++ [32]) ++ (y ++ [10]) by simp, e, List.take_left' h2]
end Go.Proofs.YtndojpcjhkncgaaGreatDoor.Q
end
