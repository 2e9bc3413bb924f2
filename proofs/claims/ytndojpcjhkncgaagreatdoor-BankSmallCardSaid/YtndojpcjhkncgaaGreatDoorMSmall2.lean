/- Part 2 of a proof: the texts HBuild, HLine, HLines, QFbankend, HWrite, QFref36hex, QFref36End, QFref36decimal, QFref36line, QFref36Write, QFref36WriteAnswer, SText, SNumb, HRng, HLn2, HForm, HClosed, HRd1, HRead, SChg, SFile, SWrite, put together by a program of this repo. -/
import Derived.WalkKit
import Derived.OwnWalk
import Derived.Lib.Hide
import Derived.Lib.OthersKept
import Derived.Lib.FrozenHead
import Derived.Lib.FrozenHead2
import Derived.Shelf.Strings.BuilderK
import Derived.Handy
import Derived.Deep.RegionHeld3
import Derived.Lib.ItoaLen
import Derived.Lib.AtoiAllCases
import Derived.Shelf.Strings.SlTrimAscii
import Derived.Test.YtndojpcjhkncgaaGreatDoorMSmall1
set_option linter.unusedVariables false
set_option linter.unusedSimpArgs false
section
namespace Go.Proofs.YtndojpcjhkncgaaGreatDoor.Q
open Go Go.RowKit
section
theorem sizeBuilder : (Tryz.prog.info? 100).map (·.size) = some 2 := by kernel_rfl
theorem liesBuilder : liesAt Tryz.prog Tryz.prog.depth 100 (2 / Tryz.prog.cellsOf 100) 0 100 1 = true := by kernel_rfl
theorem infoByte : (Tryz.prog.info? 5).map (fun i => (i.zero, i.size, i.bytes)) = some (some (.int .u8 0), 1, 1) := by kernel_rfl
set_option maxRecDepth 100000 in
theorem copyCheck_fresh (b : Nat) (w : World) (h0 : w.cell? ⟨b, 0, none⟩ = some (.pointer none)) (hsh : w.shape? b = some (100, 2)) (hfz : w.frozen? ⟨b, 0, none⟩ = false) :
    Calls Tryz.prog 72 #[.pointer (some ⟨b, 0, none⟩)] w fun e w' => e = .returned (.tuple #[]) ∧ w' = w.setCell ⟨b, 0, none⟩ (.pointer (some ⟨b, 0, none⟩)) := by
  obtain ⟨j, hj, hjs⟩ := Option.map_eq_some_iff.1 sizeBuilder
  go_enter Tryz.func72, Tryz.ntmps72
  go_wp2
  rw [Lib.run_to_unsafe w ⟨b, 0, none⟩ Tryz.underlying98 Tryz.underlying123 hj (by rw [hjs]; decide) hsh (Nat.zero_lt_succ 1)]
  simp only [Result.andThen]
  rw [Oper.upon_value]
  go_wp2
  rw [run_callFunc_extern Tryz.func81 (by kernel_rfl) (by kernel_rfl) (by kernel_rfl) (e := Extern.AbiNoEscape.same) (by kernel_rfl)]
  rw [Lib.run_noEscape]
  simp only [Result.andThen]
  rw [Oper.upon_value]
  go_wp2
  rw [Lib.run_from_unsafe w ⟨b, 0, none⟩ Tryz.underlying123 Tryz.underlying98 hj hsh liesBuilder]
  simp only [Result.andThen]
  rw [Oper.upon_value]
  go_wp2
  go_end0
  exact ⟨rfl, rfl⟩
set_option maxRecDepth 100000 in
theorem copyCheck_used (b : Nat) (w : World) (h0 : w.cell? ⟨b, 0, none⟩ = some (.pointer (some ⟨b, 0, none⟩))) :
    Calls Tryz.prog 72 #[.pointer (some ⟨b, 0, none⟩)] w fun e w' => e = .returned (.tuple #[]) ∧ w' = w := by
  obtain ⟨j, hj, _⟩ := Option.map_eq_some_iff.1 sizeBuilder
  go_enter Tryz.func72, Tryz.ntmps72
  go_wp2
  rw [Lib.run_neq_ptr_same w _ Tryz.underlying98 hj]
  go_wp2
  go_end0
  exact ⟨rfl, rfl⟩
theorem copyCheck_k (B b : Nat) (bs : List Value) (w : World) (h : Lib.IsBuilderF 100 5 B b bs w) :
    Calls Tryz.prog 72 #[.pointer (some ⟨b, 0, none⟩)] w fun e w' => e = .returned (.tuple #[]) ∧ (Lib.BuilderAtF 100 5 B b (.pointer (some ⟨b, 0, none⟩)) bs w' ∧ Below B w w' ∧ Lib.OthersKept 5 (some b) w w') := by
  rcases h with h | h
  · refine (copyCheck_fresh b w h.cell0 h.shape h.frozen0).mono ?_
    rintro e w' ⟨rfl, rfl⟩
    exact ⟨rfl, h.used _, (Below.refl B w).setCell (p := ⟨b, 0, none⟩) h.1 _, (Lib.OthersKept.refl _ _ w).setCell ⟨b, 0, none⟩ rfl _⟩
  · refine (copyCheck_used b w h.cell0).mono ?_
    rintro e w' ⟨rfl, rfl⟩
    exact ⟨rfl, h, Below.refl B _, Lib.OthersKept.refl _ _ _⟩
theorem neB : (100 : Nat) ≠ 5 := by decide
set_option maxHeartbeats 1000000 in
set_option maxRecDepth 100000 in
theorem WriteByte_k (B b : Nat) (bs : List Value) (c : Int) (w : World) (h : Lib.IsBuilderF 100 5 B b bs w) (hlen : bs.length + 1 ≤ 140737488355328) (hBw : B ≤ w.heap.size) :
    Calls Tryz.prog 61 #[.pointer (some ⟨b, 0, none⟩), .int .u8 c] w fun e w' => e = .returned .nilIface ∧ (Lib.BuilderAtF 100 5 B b (.pointer (some ⟨b, 0, none⟩)) (bs ++ [.int .u8 c]) w' ∧ Below B w w' ∧ Lib.OthersKept 5 (some b) w w') := by
  obtain ⟨i0, hi, hz0, hz1, hz2⟩ := info_parts infoByte
  have hCC := Lib.hid (copyCheck_k B b bs w h)
  clear h
  go_enter Tryz.func61, Tryz.ntmps61
  go_wp2_with (go_at_call 72; refine hCC.out.mono ?_)
  rintro e w1 ⟨rfl, h1, hb1, hk1⟩
  obtain ⟨hB, v, hbk, hown, hne⟩ := h1
  have c0 : w1.cell? ⟨b, 0, none⟩ = some (.pointer (some ⟨b, 0, none⟩)) := by rw [Lib.cell_of_heap hbk]; rfl
  have c1 : w1.cell? ⟨b, 1, none⟩ = some v := by rw [Lib.cell_of_heap hbk]; rfl
  go_wp2_with (at_builtin; refine wpList_append_ownF _ rfl _ _ 53 rfl B 5 i0 (.int .u8 0) 1 1 Tryz.underlying53 hi hz0 hz1 hz2 rfl (by decide) _ _ _ rfl (hown.alloc _) ⟨w1.heap.size, 0, none⟩ 1 1 [.int .u8 c] rfl rfl ?c1 ?c2 ?c3 ?c4 ?c5 ?_)
  case c1 =>
    intro j u hj
    match j, hj with
    | 0, hj => simp at hj; subst hj; simp [Addr.add]
  case c2 => intro u hu; simp at hu; subst hu; rfl
  case c3 => unfold maxLen; omega
  case c4 => omega
  case c5 => have := hb1.size; simp; omega
  intro v' w2 hown' hgrow _
  have hlt : b < w1.heap.size := by
    rcases Nat.lt_or_ge b w1.heap.size with h' | h'
    · exact h'
    · simp [Array.getElem?_eq_none h'] at hbk
  have hb2 : w2.heap[b]? = some (.cells #[.pointer (some ⟨b, 0, none⟩), v] 100 (0, 0)) := by
    rw [hgrow.block b (by simp; omega) (fun e => hne e.symm), Lib.alloc_old w1 _ b hlt]
    exact hbk
  have d0 : w2.cell? ⟨b, 0, none⟩ = some (.pointer (some ⟨b, 0, none⟩)) := by rw [Lib.cell_of_heap hb2]; rfl
  have d1 : w2.cell? ⟨b, 1, none⟩ = some v := by rw [Lib.cell_of_heap hb2]; rfl
  have f1 : w2.frozen? ⟨b, 1, none⟩ = false := Lib.frozen_of_heap hb2 1
  obtain ⟨g, cap, rfl⟩ : ∃ g cap, v' = .slice (some ⟨g, 0, none⟩) (bs.length + 1) cap := by
    rcases hown'.2 with ⟨_, h0⟩ | ⟨g, cap, cur, fz, hv, _⟩
    · omega
    · exact ⟨g, cap, hv⟩
  go_wp2
  go_ret
  refine ⟨rfl, ?_, ?_, ((hk1.alloc _).grown hgrow (Lib.ownsRowF_kind (hown.alloc _))).setCell ⟨b, 1, none⟩ rfl _⟩
  · exact Lib.BuilderAtF.put (T := 100) (e := 5) hB hb2 (bs' := bs ++ [.int .u8 c]) (by simpa using hown') neB
  · exact ((hb1.alloc (by have := hb1.size; omega) _).grown hgrow (by have := hb1.size; simp; omega) (fun k hk => (hown.lt k hk).1)).setCell (p := ⟨b, 1, none⟩) hB _
set_option maxHeartbeats 1000000 in
set_option maxRecDepth 100000 in
theorem WriteString_k (B b : Nat) (bs : List Value) (s : ByteArray) (w : World) (h : Lib.IsBuilderF 100 5 B b bs w) (hlen : bs.length + s.size ≤ 140737488355328) (hBw : B ≤ w.heap.size) :
    Calls Tryz.prog 60 #[.pointer (some ⟨b, 0, none⟩), .string s] w fun e w' => e = .returned (.tuple #[.int .i64 s.size, .nilIface]) ∧ (Lib.BuilderAtF 100 5 B b (.pointer (some ⟨b, 0, none⟩)) (bs ++ Lib.strCells s) w' ∧ Below B w w' ∧ Lib.OthersKept 5 (some b) w w') := by
  obtain ⟨i0, hi, hz0, hz1, hz2⟩ := info_parts infoByte
  have hCC := Lib.hid (copyCheck_k B b bs w h)
  clear h
  go_enter Tryz.func60, Tryz.ntmps60
  go_wp2_with (go_at_call 72; refine hCC.out.mono ?_)
  rintro e w1 ⟨rfl, h1, hb1, hk1⟩
  obtain ⟨hB, v, hbk, hown, hne⟩ := h1
  have c0 : w1.cell? ⟨b, 0, none⟩ = some (.pointer (some ⟨b, 0, none⟩)) := by rw [Lib.cell_of_heap hbk]; rfl
  have c1 : w1.cell? ⟨b, 1, none⟩ = some v := by rw [Lib.cell_of_heap hbk]; rfl
  go_wp2_with (at_builtin; refine Lib.wpList_append_own_stringF _ rfl _ _ 53 9 rfl B 5 i0 Tryz.underlying53 Tryz.underlying9 hi hz0 hz1 hz2 _ _ _ rfl hown s rfl ?c3 ?c4 ?c5 ?_)
  case c3 => unfold maxLen; omega
  case c4 => omega
  case c5 => have := hb1.size; omega
  intro v' w2 hown' hgrow _
  have hlt : b < w1.heap.size := by
    rcases Nat.lt_or_ge b w1.heap.size with h' | h'
    · exact h'
    · simp [Array.getElem?_eq_none h'] at hbk
  have hb2 : w2.heap[b]? = some (.cells #[.pointer (some ⟨b, 0, none⟩), v] 100 (0, 0)) := by
    rw [hgrow.block b hlt (fun e => hne e.symm)]
    exact hbk
  have d0 : w2.cell? ⟨b, 0, none⟩ = some (.pointer (some ⟨b, 0, none⟩)) := by rw [Lib.cell_of_heap hb2]; rfl
  have d1 : w2.cell? ⟨b, 1, none⟩ = some v := by rw [Lib.cell_of_heap hb2]; rfl
  have f1 : w2.frozen? ⟨b, 1, none⟩ = false := Lib.frozen_of_heap hb2 1
  obtain ⟨ao, n', cap, rfl⟩ : ∃ ao n' cap, v' = .slice ao n' cap := by
    rcases hown'.2 with ⟨hv, _⟩ | ⟨g, cap, cur, fz, hv, _⟩
    · exact ⟨_, _, _, hv⟩
    · exact ⟨_, _, _, hv⟩
  go_wp2
  go_ret2
  refine ⟨rfl, ?_, ?_, (hk1.grown hgrow (Lib.ownsRowF_kind hown)).setCell ⟨b, 1, none⟩ rfl _⟩
  · exact Lib.BuilderAtF.put (T := 100) (e := 5) hB hb2 (bs' := bs ++ Lib.strCells s) (by simpa [Lib.strCells_length] using hown') neB
  · exact (hb1.grown hgrow (by have := hb1.size; omega) (fun k hk => (hown.lt k hk).1)).setCell (p := ⟨b, 1, none⟩) hB _
end
end Go.Proofs.YtndojpcjhkncgaaGreatDoor.Q
end
section
namespace Go.Proofs.YtndojpcjhkncgaaGreatDoor.Q
open Go Go.RowKit Go.Proofs.YtndojpcjhkncgaaGreatDoorW.PrintWords
section
structure Bd (w0 : World) (b : Nat) (l : List UInt8) (W : World) : Prop where
  is : Lib.IsBuilderF 100 5 w0.heap.size b (Lib.byteCells l) W
  low : Below w0.heap.size w0 W
structure Ok (b : Nat) (W W' : World) : Prop where
  kept : Lib.OthersKept 5 (some b) W W'
theorem Ok.trans {b : Nat} {W1 W2 W3 : World} (h : Ok b W1 W2) (k : Ok b W2 W3) : Ok b W1 W3 := ⟨h.kept.trans k.kept⟩
theorem Ok.of_below {b : Nat} {W1 W2 : World} (h : Below W1.heap.size W1 W2) : Ok b W1 W2 := ⟨fun k o hk _ _ => (h.block k (Array.getElem?_eq_some_iff.1 hk).1).trans hk⟩
theorem Ok.then_ {b : Nat} {W1 W2 W3 : World} (h : Ok b W1 W2) (k : Below W2.heap.size W2 W3) : Ok b W1 W3 := h.trans (Ok.of_below k)
theorem Ok.at_ {b g : Nat} {W W' : World} (h : Ok b W W') {cs : Array Value} {t : TypeId} {fz : Nat × Nat} (hg : W.heap[g]? = some (.cells cs t fz)) (hb : g ≠ b) (ht : t ≠ 5) : W'.heap[g]? = some (.cells cs t fz) :=
  h.kept g _ hg (fun e => hb (Option.some.inj e)) (fun c z e => ht (by injection e))
theorem Bd.then_ {w0 : World} {b : Nat} {l : List UInt8} {W W' : World} (h : Bd w0 b l W) (k : Below W.heap.size W W') : Bd w0 b l W' := by
  have one : ∀ p, Lib.BuilderAtF 100 5 w0.heap.size b p (Lib.byteCells l) W → Lib.BuilderAtF 100 5 w0.heap.size b p (Lib.byteCells l) W' := by
    rintro p ⟨hB, v, hb, ho, hne⟩
    exact ⟨hB, v, (k.block b (Array.getElem?_eq_some_iff.1 hb).1).trans hb, ho.kept (grown_of_below k none) (by cases v.ownBlock <;> simp), hne⟩
  exact ⟨h.is.imp (one _) (one _), below_then h.low h.low.size k⟩
theorem Bd.lt {w0 : World} {b : Nat} {l : List UInt8} {W : World} (h : Bd w0 b l W) : b < W.heap.size := by
  rcases h.is with h | h
  · exact h.lt
  · exact h.lt
theorem WriteByte_b (w0 : World) (b : Nat) (l : List UInt8) (c : UInt8) (W : World) (h : Bd w0 b l W) (hlen : l.length + 1 ≤ 140737488355328) :
    Calls Tryz.prog 61 #[.pointer (some ⟨b, 0, none⟩), .int .u8 c.toNat] W fun e W' => e = .returned .nilIface ∧ Bd w0 b (l ++ [c]) W' ∧ Ok b W W' := by
  refine (WriteByte_k w0.heap.size b (Lib.byteCells l) c.toNat W h.is (by rw [Lib.byteCells_length]; exact hlen) h.low.size).mono ?_
  rintro e W' ⟨rfl, h1, h2, h3⟩
  rw [show Lib.byteCells l ++ [Value.int .u8 (c.toNat : Int)] = Lib.byteCells (l ++ [c]) by rw [Lib.byteCells_append]; rfl] at h1
  exact ⟨rfl, ⟨.inr h1, h.low.trans h2⟩, ⟨h3⟩⟩
theorem WriteString_b (w0 : World) (b : Nat) (l : List UInt8) (s : ByteArray) (W : World) (h : Bd w0 b l W) (hlen : l.length + s.size ≤ 140737488355328) :
    Calls Tryz.prog 60 #[.pointer (some ⟨b, 0, none⟩), .string s] W fun e W' => e = .returned (.tuple #[.int .i64 s.size, .nilIface]) ∧ Bd w0 b (l ++ s.data.toList) W' ∧ Ok b W W' := by
  refine (WriteString_k w0.heap.size b (Lib.byteCells l) s W h.is (by rw [Lib.byteCells_length]; exact hlen) h.low.size).mono ?_
  rintro e W' ⟨rfl, h1, h2, h3⟩
  rw [Lib.strCells_eq, ← Lib.byteCells_append] at h1
  exact ⟨rfl, ⟨.inr h1, h.low.trans h2⟩, ⟨h3⟩⟩
def numsL (ns : List Int) : List UInt8 := ns.flatMap fun n => 32 :: Lib.itoa n
def lineL (word : List UInt8) (ns : List Int) : List UInt8 := word ++ numsL ns ++ [10]
theorem numsL_snoc (ns : List Int) (k : Nat) (hk : k < ns.length) : numsL (ns.take (k + 1)) = numsL (ns.take k) ++ [32] ++ Lib.itoa ns[k] := by
  unfold numsL
  rw [List.take_succ_eq_append_getElem hk, List.flatMap_append]
  simp
theorem numsL_take_le (ns : List Int) (k : Nat) : (numsL (ns.take k)).length ≤ (numsL ns).length := by
  have h : numsL ns = numsL (ns.take k) ++ numsL (ns.drop k) := by
    unfold numsL
    rw [← List.flatMap_append, List.take_append_drop]
  rw [h, List.length_append]
  omega
set_option maxHeartbeats 1000000 in
set_option maxRecDepth 100000 in
theorem line_go (w0 : World) (hG : GG w0) (b : Nat) (l : List UInt8) (word : ByteArray) (ns : List Int) (g : Nat) (W : World) (hI : Bd w0 b l W)
    (hns : ∀ n ∈ ns, -9223372036854775808 ≤ n ∧ n ≤ 9223372036854775807) (hlen : l.length + (lineL word.data.toList ns).length ≤ 140737488355328)
    (hg : W.heap[g]? = some (.cells (ns.map (Value.int .i64)).toArray 3 (0, 0))) (hgb : g ≠ b) (hnl : ns.length ≤ 1000) :
    Calls Tryz.prog 59 #[.string word, .slice (some ⟨g, 0, none⟩) ns.length ns.length, .pointer (some ⟨b, 0, none⟩)] W fun e W' => e = .returned (.tuple #[]) ∧ Bd w0 b (l ++ lineL word.data.toList ns) W' ∧ Ok b W W' := by
  have HG := Lib.hid hG
  have HI := Lib.hid hI
  have HN := Lib.hid hns
  have hll : (lineL word.data.toList ns).length = word.size + (numsL ns).length + 1 := by
    unfold lineL
    rw [List.length_append, List.length_append, Array.length_toList]
    rfl
  have HL := Lib.hid (show l.length + word.size + (numsL ns).length + 1 ≤ 140737488355328 by omega)
  have Hg := Lib.hid hg
  clear hG hI hns hlen hg hll
  go_enter Tryz.func59, Tryz.ntmps59
  go_wp2_with (go_at_call 60; refine (WriteString_b w0 b l word W HI.out (by have := HL.out; omega)).mono ?_; rintro e W1 ⟨rfl, hI1, hk1⟩)
  have HI1 := Lib.hid hI1
  have HK1 := Lib.hid hk1
  clear hI1 hk1
  go_loopw [11] (fun i wr => ∃ k : Nat, k ≤ ns.length ∧ i = .int .i64 k ∧ Hid (Bd w0 b (l ++ word.data.toList ++ numsL (ns.take k)) wr) ∧ Hid (Ok b W wr)) (fun i _ => ns.length - (intOf i).toNat)
  case atStart => exact ⟨0, Nat.zero_le _, rfl, by rw [List.take_zero]; exact Lib.hid (by simpa [numsL] using HI1.out), HK1⟩
  case round =>
    obtain ⟨k, hk, rfl, hI, hK⟩ := hrel
    have hb := hK.out.at_ Hg.out hgb (by decide)
    by_cases hlt : k < ns.length
    · have hc : wr.cell? ⟨g, k, none⟩ = some (.int .i64 ns[k]) := (bkc hb k).trans (by simp [hlt])
      obtain ⟨n, hn⟩ : ∃ n, n = ns[k] := ⟨_, rfl⟩
      rw [← hn] at hc
      have hr := HN.out n (by rw [hn]; exact List.getElem_mem hlt)
      have hle := numsL_take_le ns (k + 1)
      rw [numsL_snoc ns k hlt, ← hn, List.length_append, List.length_append] at hle
      have HS := Lib.hid (show l ++ word.data.toList ++ numsL (ns.take (k + 1)) = l ++ word.data.toList ++ numsL (ns.take k) ++ [32] ++ Lib.itoa n by rw [numsL_snoc ns k hlt, hn]; simp [List.append_assoc])
      have HE := Lib.hid hle
      have hit : strconv_Itoa.f n = some ⟨(Lib.itoa n).toArray⟩ := if_pos hr
      have HIt := Lib.hid hit
      have HR := Lib.hid hr
      have hwl : word.data.toList.length = word.size := by rw [Array.length_toList]; rfl
      have HW := Lib.hid hwl
      clear hn hle hit hr hwl hb
      go_wp2_with (go_at_call 61; refine (WriteByte_b w0 b _ 32 wr hI.out (by have h1 := HL.out; have h2 := HE.out; have h3 := HW.out; simp only [List.length_append, List.length_singleton] at h2 ⊢; omega)).mono ?_; rintro e W2 ⟨rfl, hI2, hk2⟩)
      have HI2 := Lib.hid hI2
      have HK2 := Lib.hid hk2
      clear hI2 hk2
      refine (strconv_Itoa.calls n _ W2 (HG.out.below HI2.out.low) HIt.out).mono ?_
      rintro e W3 ⟨rfl, hb3⟩
      have HI3 := Lib.hid (HI2.out.then_ hb3)
      have HK3 := Lib.hid (HK2.out.then_ hb3)
      clear hb3 HI2 HK2
      go_wp2_with fail
      refine (WriteString_b w0 b _ ⟨(Lib.itoa n).toArray⟩ W3 HI3.out (by have h1 := HL.out; have h2 := HE.out; have h3 := HW.out; simp only [List.length_append, List.length_singleton] at h2 ⊢; show _ + (Lib.itoa n).toArray.size ≤ _; simp only [List.size_toArray]; omega)).mono ?_
      rintro e W4 ⟨rfl, hI4, hk4⟩
      have HI4 := Lib.hid hI4
      have HK4 := Lib.hid (hK.out.trans (HK3.out.trans hk4))
      clear hI4 hk4 HI3 HK3 hc HIt HR
      go_wp2_with fail
      go_roundw
      case rel => exact ⟨k + 1, by omega, by go_num, by rw [HS.out]; exact HI4, HK4⟩
      case measure => simp [intOf]; omega
    · obtain rfl : k = ns.length := by omega
      have hI' := hI.out
      rw [List.take_length] at hI'
      have HI2 := Lib.hid hI'
      clear hI hI' hb
      have hwl : word.data.toList.length = word.size := by rw [Array.length_toList]; rfl
      have HW := Lib.hid hwl
      clear hwl
      go_wp2_with (go_at_call 61; refine (WriteByte_b w0 b _ 10 wr HI2.out (by have h1 := HL.out; have h3 := HW.out; simp only [List.length_append]; omega)).mono ?_; rintro e W2 ⟨rfl, hI2, hk2⟩)
      go_end0
      exact ⟨rfl, by simpa [lineL, List.append_assoc] using hI2, hK.out.trans hk2⟩
end
section
def orderL (o : S47) : List UInt8 := lineL [111, 114, 100, 101, 114] [o.f0, o.f1, o.f2, o.f3, o.f4]
def fileL (num day : Int) (os : List S47) (s : Int) : List UInt8 := lineL [80, 65, 89] [num, day, os.length, s] ++ os.flatMap orderL
theorem flat_take_le {α : Type} (f : α → List UInt8) (os : List α) (k : Nat) (hk : k < os.length) : ((os.take k).flatMap f).length + (f os[k]).length ≤ (os.flatMap f).length := by
  have h : os.flatMap f = (os.take (k + 1)).flatMap f ++ (os.drop (k + 1)).flatMap f := by rw [← List.flatMap_append, List.take_append_drop]
  rw [h, List.length_append, List.take_succ_eq_append_getElem hk, List.flatMap_append, List.length_append]
  simp
set_option maxHeartbeats 1000000 in
set_option maxRecDepth 100000 in
theorem Write1_go (w0 : World) (hG : GG w0) (b gf : Nat) (l : List UInt8) (num day : Int) (A : Option Addr) (c : Nat) (os : List S47) (W : World) (hI : Bd w0 b l W)
    (hf : W.heap[gf]? = some (.cells #[.int .i64 num, .int .i64 day, .slice A os.length c] 27 (0, 0))) (hgf : gf ≠ b) (hC : Kd.C k47 w0 A os.length os) (hc : os.length ≤ c) (k : Nat) (s : Int) (hs : bank_total.f k num day os = some s)
    (hn : ∀ n ∈ [num, day, (os.length : Int), s], -9223372036854775808 ≤ n ∧ n ≤ 9223372036854775807) (ho : ∀ o ∈ os, ∀ n ∈ [o.f0, o.f1, o.f2, o.f3, o.f4], -9223372036854775808 ≤ n ∧ n ≤ 9223372036854775807)
    (hlen : l.length + (fileL num day os s).length ≤ 140737488355328) :
    Calls Tryz.prog 45 #[.func (.func 59) #[] #[.pointer (some ⟨b, 0, none⟩)], .pointer (some ⟨gf, 0, none⟩)] W fun e W' => e = .returned (.tuple #[]) ∧ Bd w0 b (l ++ fileL num day os s) W' ∧ Ok b W W' := by
  have hll : (lineL [80, 65, 89] [num, day, os.length, s]).length ≤ (fileL num day os s).length := by unfold fileL; rw [List.length_append]; omega
  have HLine : ∀ (w' : World) (g : Nat), Bd w0 b l w' → w'.heap[g]? = some (.cells #[.int .i64 num, .int .i64 day, .int .i64 os.length, .int .i64 s] 3 (0, 0)) → g ≠ b →
      Calls Tryz.prog 59 #[.string ⟨#[80, 65, 89]⟩, .slice (some ⟨g, 0, none⟩) 4 4, .pointer (some ⟨b, 0, none⟩)] w' fun e W' => e = .returned (.tuple #[]) ∧ Bd w0 b (l ++ lineL [80, 65, 89] [num, day, os.length, s]) W' ∧ Ok b w' W' :=
    fun w' g h1 h2 h3 => line_go w0 hG b l ⟨#[80, 65, 89]⟩ [num, day, os.length, s] g w' h1 hn (by exact Nat.le_trans (Nat.add_le_add_left hll _) hlen) h2 h3 (by simp)
  have HTot : ∀ w', Bd w0 b l w' → Calls Tryz.prog 46 #[.agg #[.int .i64 num, .int .i64 day, .slice A os.length c]] w' fun e w2 => e = .returned (.int .i64 s) ∧ Below w'.heap.size w' w2 :=
    fun w' h => bank_total.calls k num day A c os s w' (Kd.C_below hC h.low) hc hs
  have HL := Lib.hid HLine
  have HG0 := Lib.hid hG
  have HT := Lib.hid HTot
  have HI := Lib.hid hI
  have HC := Lib.hid hC
  have HO := Lib.hid ho
  have HN := Lib.hid hlen
  have HF := Lib.hid hf
  have c0 : W.cell? ⟨gf, 0, none⟩ = some (.int .i64 num) := bkc hf 0
  have c1 : W.cell? ⟨gf, 1, none⟩ = some (.int .i64 day) := bkc hf 1
  have c2 : W.cell? ⟨gf, 2, none⟩ = some (.slice A os.length c) := bkc hf 2
  clear HLine HTot hI hC ho hlen hf hn hs hG hll
  have hk1 : Ok b W W.drew := Ok.of_below (below_drew (Below.refl _ _))
  have hS : ∀ w', Ok b W w' → (w'.cell? ⟨gf, 0, none⟩ = some (.int .i64 num) ∧ w'.cell? ⟨gf, 1, none⟩ = some (.int .i64 day) ∧ w'.cell? ⟨gf, 2, none⟩ = some (.slice A os.length c)) :=
    fun w' h => have h := h.at_ HF.out hgf (by decide); ⟨bkc h 0, bkc h 1, bkc h 2⟩
  have HS := Lib.hid hS
  have HK1 := Lib.hid hk1
  have HI1 := Lib.hid (HI.out.then_ (below_drew (Below.refl W.heap.size W)))
  have HG := Lib.hid hgf
  clear hS hk1 hgf HI
  go_enter Tryz.func45, Tryz.ntmps45
  go_wp2_with fail
  go_region_held3 (fun w' => (w'.cell? ⟨gf, 0, none⟩ = some (.int .i64 num) ∧ w'.cell? ⟨gf, 1, none⟩ = some (.int .i64 day) ∧ w'.cell? ⟨gf, 2, none⟩ = some (.slice A os.length c))) (first | exact HS.out _ HK1.out | exact HS.out _ HK2.out | exact HS.out _ HK3.out | exact HS.out _ HK4.out)
    (first | (go_at_call 46; refine (HT.out _ HI1.out).mono ?_; rintro e w2 ⟨rfl, hb2⟩; have HI2 := Lib.hid (HI1.out.then_ hb2); have HK2 := Lib.hid (HK1.out.then_ hb2); have HK3 := Lib.hid (HK2.out.then_ (bla (Below.refl w2.heap.size w2) (.cells #[.int .i64 num, .int .i64 day, .int .i64 os.length, .int .i64 s] 3))); have HI3 := Lib.hid (HI2.out.then_ (bla (Below.refl w2.heap.size w2) (.cells #[.int .i64 num, .int .i64 day, .int .i64 os.length, .int .i64 s] 3))); have HB2 := Lib.hid hb2; clear hb2) | (go_at_call 59; refine (HL.out _ w2.heap.size HI3.out (heap_alloc_new w2 _) (fun e => Nat.lt_irrefl _ (Nat.lt_of_lt_of_eq HI2.out.lt e))).mono ?_; rintro e w3 ⟨rfl, hI4, hk4⟩; have HI4 := Lib.hid hI4; have HK4 := Lib.hid (HK3.out.trans hk4); clear hI4 hk4))
  clear HI1 HI2 HI3 HK1 HK2 HK3 HB2 c0 c1 c2 HT HL
  obtain ⟨d0, d1, d2⟩ := HS.out _ HK4.out
  clear d0 d1
  go_wp2_with fail
  go_loopw [20] (fun i wr => ∃ k : Nat, k ≤ os.length ∧ i = .int .i64 k ∧ Hid (Bd w0 b (l ++ lineL [80, 65, 89] [num, day, os.length, s] ++ (os.take k).flatMap orderL) wr) ∧ Hid (Ok b W wr)) (fun i _ => os.length - (intOf i).toNat)
  case atStart => exact ⟨0, Nat.zero_le _, rfl, Lib.hid (by simpa using HI4.out), HK4⟩
  case round =>
    obtain ⟨k, hk, rfl, hI, hK⟩ := hrel
    clear d2 HI4 HK4
    have hm : os.length ≤ 9223372036854775807 := HC.out.2.1
    by_cases hlt : k < os.length
    · obtain ⟨ad, rfl, e0, e1, e2, e3, e4⟩ := at_T47 (Kd.C_below HC.out hI.out.low) (k : Int) (by omega) (by omega)
      obtain ⟨o, hor⟩ : ∃ o, o = rTO os (k : Int) := ⟨_, rfl⟩
      rw [← hor] at e0 e1 e2 e3 e4
      simp only [Int.toNat_natCast] at e0 e1 e2 e3 e4
      have HOR := Lib.hid hor
      clear hor
      have hlo : l.length + (lineL [80, 65, 89] [num, day, os.length, s]).length + ((os.take k).flatMap orderL).length + (orderL o).length ≤ 140737488355328 := by
        have h := HN.out
        have h2 := flat_take_le orderL os k hlt
        rw [show os[k] = o by rw [HOR.out]; unfold rTO; simp [hlt]] at h2
        unfold fileL at h
        rw [List.length_append] at h
        omega
      have hon := HO.out o (by rw [HOR.out]; unfold rTO; simp [hlt])
      have HOL := Lib.hid hlo
      have HON := Lib.hid hon
      clear hlo hon
      go_wp2_with fail
      have HB1 := Lib.hid (bla (bla (Below.refl wr.heap.size wr) (.cells #[.int .i64 o.f0, .int .i64 o.f1, .int .i64 o.f2, .int .i64 o.f3, .int .i64 o.f4] 47)) (.cells #[.int .i64 o.f0, .int .i64 o.f1, .int .i64 o.f2, .int .i64 o.f3, .int .i64 o.f4] 3))
      have hnb : wr.heap.size + 1 ≠ b := by have := hI.out.lt; omega
      refine (line_go w0 HG0.out b _ ⟨#[111, 114, 100, 101, 114]⟩ [o.f0, o.f1, o.f2, o.f3, o.f4] (wr.heap.size + 1) _ (hI.out.then_ HB1.out) HON.out (by rw [List.length_append, List.length_append]; exact HOL.out) (by have := heap_alloc_new (wr.alloc (.cells #[.int .i64 o.f0, .int .i64 o.f1, .int .i64 o.f2, .int .i64 o.f3, .int .i64 o.f4] 47)) (.cells #[.int .i64 o.f0, .int .i64 o.f1, .int .i64 o.f2, .int .i64 o.f3, .int .i64 o.f4] 3); rw [World.size_alloc] at this; exact this) hnb (by simp)).mono ?_
      rintro e w5 ⟨rfl, hI5, hk5⟩
      have HI5 := Lib.hid hI5
      have HK5 := Lib.hid ((hK.out.then_ HB1.out).trans hk5)
      have HS2 := Lib.hid (show l ++ lineL [80, 65, 89] [num, day, os.length, s] ++ (os.take (k + 1)).flatMap orderL = l ++ lineL [80, 65, 89] [num, day, os.length, s] ++ (os.take k).flatMap orderL ++ orderL o by
        rw [List.take_succ_eq_append_getElem hlt, List.flatMap_append, show os[k] = o by rw [HOR.out]; unfold rTO; simp [hlt]]
        simp [List.append_assoc])
      clear hI5 hk5 HB1 hnb e0 e1 e2 e3 e4 HOL HON
      go_wp2_with fail
      go_roundw
      case rel => exact ⟨k + 1, by omega, by go_num, Lib.hid (by rw [HS2.out]; exact HI5.out), HK5⟩
      case measure => simp [intOf]; omega
    · obtain rfl : k = os.length := by omega
      have hI' := hI.out
      rw [List.take_length] at hI'
      have HI2 := Lib.hid hI'
      clear hI hI'
      go_wp2_with fail
      go_end0
      exact ⟨rfl, by have := HI2.out; unfold fileL; rw [← List.append_assoc]; exact this, hK.out⟩
def returnL (o : S49) : List UInt8 := lineL [114, 101, 116, 117, 114, 110] [o.f0, o.f1]
def answerL (num day : Int) (os : List S49) : List UInt8 := lineL [66, 65, 67, 75] [num, day, os.length] ++ os.flatMap returnL
set_option maxHeartbeats 1000000 in
set_option maxRecDepth 100000 in
theorem WriteAnswer1_go (w0 : World) (hG : GG w0) (b gf : Nat) (l : List UInt8) (num day : Int) (A : Option Addr) (c : Nat) (os : List S49) (W : World) (hI : Bd w0 b l W)
    (hf : W.heap[gf]? = some (.cells #[.int .i64 num, .int .i64 day, .slice A os.length c] 30 (0, 0))) (hgf : gf ≠ b) (hC : Kd.C k49 w0 A os.length os) (hc : os.length ≤ c)
    (hn : ∀ n ∈ [num, day, (os.length : Int)], -9223372036854775808 ≤ n ∧ n ≤ 9223372036854775807) (ho : ∀ o ∈ os, ∀ n ∈ [o.f0, o.f1], -9223372036854775808 ≤ n ∧ n ≤ 9223372036854775807)
    (hlen : l.length + (answerL num day os).length ≤ 140737488355328) :
    Calls Tryz.prog 54 #[.func (.func 59) #[] #[.pointer (some ⟨b, 0, none⟩)], .pointer (some ⟨gf, 0, none⟩)] W fun e W' => e = .returned (.tuple #[]) ∧ Bd w0 b (l ++ answerL num day os) W' ∧ Ok b W W' := by
  have hll : (lineL [66, 65, 67, 75] [num, day, os.length]).length ≤ (answerL num day os).length := by unfold answerL; rw [List.length_append]; omega
  have HLine : ∀ (w' : World) (g : Nat), Bd w0 b l w' → w'.heap[g]? = some (.cells #[.int .i64 num, .int .i64 day, .int .i64 os.length] 3 (0, 0)) → g ≠ b →
      Calls Tryz.prog 59 #[.string ⟨#[66, 65, 67, 75]⟩, .slice (some ⟨g, 0, none⟩) 3 3, .pointer (some ⟨b, 0, none⟩)] w' fun e W' => e = .returned (.tuple #[]) ∧ Bd w0 b (l ++ lineL [66, 65, 67, 75] [num, day, os.length]) W' ∧ Ok b w' W' :=
    fun w' g h1 h2 h3 => line_go w0 hG b l ⟨#[66, 65, 67, 75]⟩ [num, day, os.length] g w' h1 hn (by exact Nat.le_trans (Nat.add_le_add_left hll _) hlen) h2 h3 (by simp)
  have HL := Lib.hid HLine
  have HG0 := Lib.hid hG
  have HI := Lib.hid hI
  have HC := Lib.hid hC
  have HO := Lib.hid ho
  have HN := Lib.hid hlen
  have HF := Lib.hid hf
  have c0 : W.cell? ⟨gf, 0, none⟩ = some (.int .i64 num) := bkc hf 0
  have c1 : W.cell? ⟨gf, 1, none⟩ = some (.int .i64 day) := bkc hf 1
  have c2 : W.cell? ⟨gf, 2, none⟩ = some (.slice A os.length c) := bkc hf 2
  clear HLine hI hC ho hlen hf hn hG hll
  have hS : ∀ w', Ok b W w' → (w'.cell? ⟨gf, 0, none⟩ = some (.int .i64 num) ∧ w'.cell? ⟨gf, 1, none⟩ = some (.int .i64 day) ∧ w'.cell? ⟨gf, 2, none⟩ = some (.slice A os.length c)) :=
    fun w' h => have h := h.at_ HF.out hgf (by decide); ⟨bkc h 0, bkc h 1, bkc h 2⟩
  have HS := Lib.hid hS
  have HG := Lib.hid hgf
  have HK3 := Lib.hid (Ok.of_below (b := b) (bla (Below.refl W.heap.size W) (.cells #[.int .i64 num, .int .i64 day, .int .i64 os.length] 3)))
  have HI3 := Lib.hid (HI.out.then_ (bla (Below.refl W.heap.size W) (.cells #[.int .i64 num, .int .i64 day, .int .i64 os.length] 3)))
  clear hS hgf
  go_enter Tryz.func54, Tryz.ntmps54
  go_wp2_with fail
  refine (HL.out _ W.heap.size HI3.out (heap_alloc_new W _) (fun e => Nat.lt_irrefl _ (Nat.lt_of_lt_of_eq HI.out.lt e))).mono ?_
  rintro e w3 ⟨rfl, hI4, hk4⟩
  have HI4 := Lib.hid hI4
  have HK4 := Lib.hid (HK3.out.trans hk4)
  clear hI4 hk4 HI3 HK3 c0 c1 c2 HL
  obtain ⟨d0, d1, d2⟩ := HS.out _ HK4.out
  clear d0 d1
  go_wp2_with fail
  go_loopw [18] (fun i wr => ∃ k : Nat, k ≤ os.length ∧ i = .int .i64 k ∧ Hid (Bd w0 b (l ++ lineL [66, 65, 67, 75] [num, day, os.length] ++ (os.take k).flatMap returnL) wr) ∧ Hid (Ok b W wr)) (fun i _ => os.length - (intOf i).toNat)
  case atStart => exact ⟨0, Nat.zero_le _, rfl, Lib.hid (by simpa using HI4.out), HK4⟩
  case round =>
    obtain ⟨k, hk, rfl, hI, hK⟩ := hrel
    clear d2 HI4 HK4
    have hm : os.length ≤ 9223372036854775807 := HC.out.2.1
    by_cases hlt : k < os.length
    · obtain ⟨ad, rfl, e0, e1⟩ := at_T49 (Kd.C_below HC.out hI.out.low) (k : Int) (by omega) (by omega)
      obtain ⟨o, hor⟩ : ∃ o, o = rTR os (k : Int) := ⟨_, rfl⟩
      rw [← hor] at e0 e1
      simp only [Int.toNat_natCast] at e0 e1
      have HOR := Lib.hid hor
      clear hor
      have hlo : l.length + (lineL [66, 65, 67, 75] [num, day, os.length]).length + ((os.take k).flatMap returnL).length + (returnL o).length ≤ 140737488355328 := by
        have h := HN.out
        have h2 := flat_take_le returnL os k hlt
        rw [show os[k] = o by rw [HOR.out]; unfold rTR; simp [hlt]] at h2
        unfold answerL at h
        rw [List.length_append] at h
        omega
      have hon := HO.out o (by rw [HOR.out]; unfold rTR; simp [hlt])
      have HOL := Lib.hid hlo
      have HON := Lib.hid hon
      clear hlo hon
      go_wp2_with fail
      have HB1 := Lib.hid (bla (bla (Below.refl wr.heap.size wr) (.cells #[.int .i64 o.f0, .int .i64 o.f1] 49)) (.cells #[.int .i64 o.f0, .int .i64 o.f1] 3))
      have hnb : wr.heap.size + 1 ≠ b := by have := hI.out.lt; omega
      refine (line_go w0 HG0.out b _ ⟨#[114, 101, 116, 117, 114, 110]⟩ [o.f0, o.f1] (wr.heap.size + 1) _ (hI.out.then_ HB1.out) HON.out (by rw [List.length_append, List.length_append]; exact HOL.out) (by have := heap_alloc_new (wr.alloc (.cells #[.int .i64 o.f0, .int .i64 o.f1] 49)) (.cells #[.int .i64 o.f0, .int .i64 o.f1] 3); rw [World.size_alloc] at this; exact this) hnb (by simp)).mono ?_
      rintro e w5 ⟨rfl, hI5, hk5⟩
      have HI5 := Lib.hid hI5
      have HK5 := Lib.hid ((hK.out.then_ HB1.out).trans hk5)
      have HS2 := Lib.hid (show l ++ lineL [66, 65, 67, 75] [num, day, os.length] ++ (os.take (k + 1)).flatMap returnL = l ++ lineL [66, 65, 67, 75] [num, day, os.length] ++ (os.take k).flatMap returnL ++ returnL o by
        rw [List.take_succ_eq_append_getElem hlt, List.flatMap_append, show os[k] = o by rw [HOR.out]; unfold rTR; simp [hlt]]
        simp [List.append_assoc])
      clear hI5 hk5 HB1 hnb e0 e1 HOL HON
      go_wp2_with fail
      go_roundw
      case rel => exact ⟨k + 1, by omega, by go_num, Lib.hid (by rw [HS2.out]; exact HI5.out), HK5⟩
      case measure => simp [intOf]; omega
    · obtain rfl : k = os.length := by omega
      have hI' := hI.out
      rw [List.take_length] at hI'
      have HI2 := Lib.hid hI'
      clear hI hI'
      go_wp2_with fail
      go_end0
      exact ⟨rfl, by have := HI2.out; unfold answerL; rw [← List.append_assoc]; exact this, hK.out⟩
end
end Go.Proofs.YtndojpcjhkncgaaGreatDoor.Q
end
section
namespace Go.Proofs.YtndojpcjhkncgaaGreatDoor.Q
open Go.RowKit Go.Proofs.YtndojpcjhkncgaaGreatDoorW.PrintWords Go.Proofs.YtndojpcjhkncgaaGreatDoorW.PrintLast Go.Proofs.YtndojpcjhkncgaaGreatDoorW.PrintMore
section
def bank_end.l0 : Nat → ByteArray → Int → Int → Int → Int → Option (ByteArray)
 | 0, _, _, _, _, _ => none
 | k + 1, x0, x3, x4, x7, x8 => if x8 < x7 then (if 0 ≤ x8 then (if x8 < (x0.size : Int) then (bank_end.l0 k x0 ((x3 + ((bt x0 x8) % 4294967296)) % 4294967296) ((x4 + ((((wrap64 (x8 + 1)) % 4294967296) * ((bt x0 x8) % 4294967296)) % 4294967296)) % 4294967296) x7 (wrap64 (x8 + 1))) else (none)) else (none)) else ((bank_hex.f x3).bind fun t122 => (if 4 + t122.size ≤ 9223372036854775807 then (if 4 + t122.size + 1 ≤ 9223372036854775807 then ((bank_hex.f x4).bind fun t123 => (if 4 + t122.size + 1 + t123.size ≤ 9223372036854775807 then (if 4 + t122.size + 1 + t123.size + 1 ≤ 9223372036854775807 then (some (((((⟨#[69, 78, 68, 32]⟩ : ByteArray) ++ t122) ++ (⟨#[32]⟩ : ByteArray)) ++ t123) ++ (⟨#[10]⟩ : ByteArray))) else (none)) else (none))) else (none)) else (none)))
def bank_end.f (k : Nat) (a0 : ByteArray) : Option (ByteArray) := bank_end.l0 k a0 0 0 (a0.size : Int) 0
set_option maxHeartbeats 8000000 in
set_option maxRecDepth 100000 in
theorem bank_end.calls (k : Nat) (a0 : ByteArray) (r : ByteArray) (w : World) (hG : GG w) (h : bank_end.f k a0 = some r) :
  Calls Tryz.prog 64 #[.string a0] w fun e w' => e = .returned (.string r) ∧ Below w.heap.size w w' := by
 have HG := Zs.mk hG; clear hG; have HB := Zs.mk (Below.refl w.heap.size w); have H : (bank_end.l0 k a0 0 0 (a0.size : Int) 0) = some r := h; clear h; have H' := Zs.mk H; clear H
 go_enter Tryz.func64, Tryz.ntmps64
 go_wp2
 go_loopg [3, 4, 8] k (fun kq v3 v4 v8 w' => ∃ (x3_1 : Int) (x4_1 : Int) (x8_1 : Int), v3 = .int .u32 x3_1 ∧ v4 = .int .u32 x4_1 ∧ v8 = .int .i64 x8_1 ∧ Zs (bank_end.l0 kq a0 x3_1 x4_1 (a0.size : Int) x8_1 = some r) ∧ Zs (kq ≤ k) ∧ Zs (Below w.heap.size w w'))
 case atStart => exact ⟨(0), (0), (0), zs, zs, zs, H', ⟨Nat.le_refl _⟩, ⟨zB⟩⟩
 case round =>
  clear H'; obtain ⟨x3_1, x4_1, x8_1, rfl, rfl, rfl, HA, HK1, HB⟩ := hrel
  cases gk with
  | zero => exact absurd HA.out (by simp [bank_end.l0])
  | succ k1 =>
   have H := HA.out; clear HA
   simp only [bank_end.l0] at H
   by_cases c2 : x8_1 < (a0.size : Int)
   ·
    rw [if_pos c2] at H
    have c2b0 := decide_eq_true c2; clear c2
    have c3 := zc H
    rw [if_pos c3] at H
    have c3b0 := decide_eq_true c3; clear c3
    have c4 := zc H
    rw [if_pos c4] at H
    have c4b0 := decide_eq_true c4; clear c4; have H' := Zs.mk H; clear H; have p5 : 0 ≤ (x8_1 : Int) := zD; have q5 : x8_1 < (a0.size : Int) := zD; have hx5 := bt_at a0 x8_1; replace p5 := eq_true p5; replace q5 := eq_true q5; have p6 : 0 ≤ (x8_1 : Int) := zD; have q6 : x8_1 < (a0.size : Int) := zD; have hx6 := bt_at a0 x8_1; replace p6 := eq_true p6; replace q6 := eq_true q6
    go_wp2
    go_roundg k1
    case measure => have := HK1.out; omega
    case rel => exact ⟨((x3_1 + ((bt a0 x8_1) % 4294967296)) % 4294967296), ((x4_1 + ((((wrap64 (x8_1 + 1)) % 4294967296) * ((bt a0 x8_1) % 4294967296)) % 4294967296)) % 4294967296), (wrap64 (x8_1 + 1)), zs, zs, zs, H', ⟨by have := HK1.out; omega⟩, ⟨zB⟩⟩
   ·
    rw [if_neg c2] at H
    have c2b0 := decide_eq_false c2; clear c2; obtain ⟨t122, A7, H⟩ := zb H; (try dsimp only [-Int.reduceToNat] at H)
    have c8 := zc H
    rw [if_pos c8] at H
    have c8b0 := eq_true c8; have c8b1 := decide_eq_true c8
    try have c8b2 : (9223372036854775807 < 4 + t122.size) = False := eq_false (Nat.not_lt.2 c8)
    have c9 := zc H
    rw [if_pos c9] at H
    have c9b0 := eq_true c9; have c9b1 := decide_eq_true c9
    try have c9b2 : (9223372036854775807 < 4 + t122.size + 1) = False := eq_false (Nat.not_lt.2 c9)
    obtain ⟨t123, A10, H⟩ := zb H; (try dsimp only [-Int.reduceToNat] at H)
    have c11 := zc H
    rw [if_pos c11] at H
    have c11b0 := eq_true c11; have c11b1 := decide_eq_true c11
    try have c11b2 : (9223372036854775807 < 4 + t122.size + 1 + t123.size) = False := eq_false (Nat.not_lt.2 c11)
    have c12 := zc H
    rw [if_pos c12] at H
    have c12b0 := eq_true c12; have c12b1 := decide_eq_true c12
    try have c12b2 : (9223372036854775807 < 4 + t122.size + 1 + t123.size + 1) = False := eq_false (Nat.not_lt.2 c12)
    obtain rfl := Option.some.inj H
    go_wp2_with (first | ((with_reducible refine gkc (f := 74) rfl ?_); refine zgo (some 29) Tryz.func74 #[.int .u32 x3_1] ?_; (with_reducible refine (bank_hex.calls x3_1 t122 _ ?side1 A7.out).mono ?_); (case side1 => exact GG.below HG.out zB); rintro e w13 ⟨rfl, hb⟩; refine ⟨_, rfl, ?_⟩; replace HB := zBs hb) | ((with_reducible refine gkc (f := 74) rfl ?_); refine zgo (some 33) Tryz.func74 #[.int .u32 x4_1] ?_; (with_reducible refine (bank_hex.calls x4_1 t123 _ ?side1 A10.out).mono ?_); (case side1 => exact GG.below HG.out zB); rintro e w14 ⟨rfl, hb⟩; refine ⟨_, rfl, ?_⟩; replace HB := zBs hb))
    go_ret
    exact ⟨zE, zB⟩
end
end Go.Proofs.YtndojpcjhkncgaaGreatDoor.Q
end
section
namespace Go.Proofs.YtndojpcjhkncgaaGreatDoor.Q
open Go Go.RowKit Go.Proofs.YtndojpcjhkncgaaGreatDoorW.PrintWords Go.Proofs.YtndojpcjhkncgaaGreatDoorW.PrintLast Go.Proofs.YtndojpcjhkncgaaGreatDoorW.PrintMore
section
theorem String_b (w0 : World) (b : Nat) (l : List UInt8) (W : World) (h : Bd w0 b l W) :
    Calls Tryz.prog 63 #[.pointer (some ⟨b, 0, none⟩)] W fun e W' => e = .returned (.string ⟨l.toArray⟩) ∧ Bd w0 b l W' ∧ Ok b W W' := by
  refine (Tryz.Builder_String_any_k w0.heap.size b l W h.is h.low.size).mono ?_
  rintro e W' ⟨rfl, h1, h2, h3⟩
  exact ⟨rfl, ⟨h1, h.low.trans h2⟩, ⟨h3⟩⟩
theorem Bd.new (w0 W : World) (h : Below w0.heap.size w0 W) : Bd w0 W.heap.size [] (W.alloc (.cells #[.pointer none, .slice none 0 0] 100)) := by
  refine ⟨.inl ⟨h.size, _, heap_alloc_new W _, ?_, by simp [Value.ownBlock]⟩, bla h _⟩
  exact World.ownsRowF_nil _ _ _ _
def closedL (k : Nat) (l : List UInt8) : Option ByteArray :=
  if l.length ≤ 140737488355328 then (bank_end.f k ⟨l.toArray⟩).bind fun e => if l.length + e.size ≤ 9223372036854775807 then some ((⟨l.toArray⟩ : ByteArray) ++ e) else none else none
set_option maxHeartbeats 1000000 in
set_option maxRecDepth 100000 in
theorem written_W (w0 : World) (hG : GG w0) (W : World) (hB : Below w0.heap.size w0 W) (gf : Nat) (l : List UInt8) (k : Nat) (r : ByteArray) (hr : closedL k l = some r) (hgf : gf < W.heap.size) (cs : Array Value) (t : TypeId) (ht : t ≠ 5) (hf : W.heap[gf]? = some (.cells cs t (0, 0)))
    (hL : ∀ b W', Bd w0 b [] W' → W'.heap[gf]? = some (.cells cs t (0, 0)) → gf ≠ b → Calls Tryz.prog 45 #[.func (.func 59) #[] #[.pointer (some ⟨b, 0, none⟩)], .pointer (some ⟨gf, 0, none⟩)] W' fun e W2 => e = .returned (.tuple #[]) ∧ Bd w0 b l W2 ∧ Ok b W' W2) :
    Calls Tryz.prog 44 #[.func (.func 45) #[] #[.pointer (some ⟨gf, 0, none⟩)]] W fun e W' => e = .returned (.string r) ∧ Below w0.heap.size w0 W' := by
  obtain ⟨hll, e, he, hle, hre⟩ : l.length ≤ 140737488355328 ∧ ∃ e, bank_end.f k ⟨l.toArray⟩ = some e ∧ l.length + e.size ≤ 9223372036854775807 ∧ (⟨l.toArray⟩ : ByteArray) ++ e = r := by
    unfold closedL at hr
    split at hr
    · rename_i h1
      obtain ⟨e, he, hr⟩ := Option.bind_eq_some_iff.mp hr
      split at hr
      · rename_i h2
        exact ⟨h1, e, he, h2, Option.some.inj hr⟩
      · cases hr
    · cases hr
  have HN := Lib.hid (hL W.heap.size _ (Bd.new w0 W hB) ((bla (Below.refl W.heap.size W) _).block gf hgf |>.trans hf) (by omega))
  obtain ⟨s, hs⟩ : ∃ s : ByteArray, s = ⟨l.toArray⟩ := ⟨_, rfl⟩
  have hsz : s.size + e.size ≤ 9223372036854775807 := by rw [hs]; show l.toArray.size + _ ≤ _; rw [List.size_toArray]; exact hle
  have HStr : ∀ W', Bd w0 W.heap.size l W' → Calls Tryz.prog 63 #[.pointer (some ⟨W.heap.size, 0, none⟩)] W' fun e W2 => e = .returned (.string s) ∧ Bd w0 W.heap.size l W2 ∧ Ok W.heap.size W' W2 := by rw [hs]; exact fun W' h => String_b w0 _ l W' h
  have HEnd : ∀ W', Below w0.heap.size w0 W' → Calls Tryz.prog 64 #[.string s] W' fun e' W2 => e' = .returned (.string e) ∧ Below W'.heap.size W' W2 := fun W' h => by rw [hs]; exact bank_end.calls k _ e W' (hG.below h) he
  have HS := Lib.hid HStr
  have HE := Lib.hid HEnd
  have HR := Lib.hid (show s ++ e = r by rw [hs]; exact hre)
  clear hL hr hG hB hll he hle hre hs HStr HEnd hf hgf ht
  go_enter Tryz.func44, Tryz.ntmps44
  go_wp2_with fail
  refine HN.out.mono ?_
  rintro e1 W1 ⟨rfl, hI1, hk1⟩
  have HI1 := Lib.hid hI1
  clear hI1 hk1 HN
  go_wp2_with fail
  refine (HS.out _ HI1.out).mono ?_
  rintro e1 W2 ⟨rfl, hI2, hk2⟩
  have HI2 := Lib.hid hI2
  clear hI2 hk2
  go_wp2_with fail
  refine (HS.out _ HI2.out).mono ?_
  rintro e1 W3 ⟨rfl, hI3, hk3⟩
  have HI3 := Lib.hid hI3
  clear hI3 hk3
  go_wp2_with fail
  refine (HE.out _ HI3.out.low).mono ?_
  rintro e1 W4 ⟨rfl, hb4⟩
  have HB4 := Lib.hid (below_then HI3.out.low HI3.out.low.size hb4)
  clear hb4
  go_wp2_with fail
  go_ret
  exact ⟨by rw [← HR.out]; rfl, HB4.out⟩
set_option maxHeartbeats 1000000 in
set_option maxRecDepth 100000 in
theorem written_A (w0 : World) (hG : GG w0) (W : World) (hB : Below w0.heap.size w0 W) (gf : Nat) (l : List UInt8) (k : Nat) (r : ByteArray) (hr : closedL k l = some r) (hgf : gf < W.heap.size) (cs : Array Value) (t : TypeId) (ht : t ≠ 5) (hf : W.heap[gf]? = some (.cells cs t (0, 0)))
    (hL : ∀ b W', Bd w0 b [] W' → W'.heap[gf]? = some (.cells cs t (0, 0)) → gf ≠ b → Calls Tryz.prog 54 #[.func (.func 59) #[] #[.pointer (some ⟨b, 0, none⟩)], .pointer (some ⟨gf, 0, none⟩)] W' fun e W2 => e = .returned (.tuple #[]) ∧ Bd w0 b l W2 ∧ Ok b W' W2) :
    Calls Tryz.prog 44 #[.func (.func 54) #[] #[.pointer (some ⟨gf, 0, none⟩)]] W fun e W' => e = .returned (.string r) ∧ Below w0.heap.size w0 W' := by
  obtain ⟨hll, e, he, hle, hre⟩ : l.length ≤ 140737488355328 ∧ ∃ e, bank_end.f k ⟨l.toArray⟩ = some e ∧ l.length + e.size ≤ 9223372036854775807 ∧ (⟨l.toArray⟩ : ByteArray) ++ e = r := by
    unfold closedL at hr
    split at hr
    · rename_i h1
      obtain ⟨e, he, hr⟩ := Option.bind_eq_some_iff.mp hr
      split at hr
      · rename_i h2
        exact ⟨h1, e, he, h2, Option.some.inj hr⟩
      · cases hr
    · cases hr
  have HN := Lib.hid (hL W.heap.size _ (Bd.new w0 W hB) ((bla (Below.refl W.heap.size W) _).block gf hgf |>.trans hf) (by omega))
  obtain ⟨s, hs⟩ : ∃ s : ByteArray, s = ⟨l.toArray⟩ := ⟨_, rfl⟩
  have hsz : s.size + e.size ≤ 9223372036854775807 := by rw [hs]; show l.toArray.size + _ ≤ _; rw [List.size_toArray]; exact hle
  have HStr : ∀ W', Bd w0 W.heap.size l W' → Calls Tryz.prog 63 #[.pointer (some ⟨W.heap.size, 0, none⟩)] W' fun e W2 => e = .returned (.string s) ∧ Bd w0 W.heap.size l W2 ∧ Ok W.heap.size W' W2 := by rw [hs]; exact fun W' h => String_b w0 _ l W' h
  have HEnd : ∀ W', Below w0.heap.size w0 W' → Calls Tryz.prog 64 #[.string s] W' fun e' W2 => e' = .returned (.string e) ∧ Below W'.heap.size W' W2 := fun W' h => by rw [hs]; exact bank_end.calls k _ e W' (hG.below h) he
  have HS := Lib.hid HStr
  have HE := Lib.hid HEnd
  have HR := Lib.hid (show s ++ e = r by rw [hs]; exact hre)
  clear hL hr hG hB hll he hle hre hs HStr HEnd hf hgf ht
  go_enter Tryz.func44, Tryz.ntmps44
  go_wp2_with fail
  refine HN.out.mono ?_
  rintro e1 W1 ⟨rfl, hI1, hk1⟩
  have HI1 := Lib.hid hI1
  clear hI1 hk1 HN
  go_wp2_with fail
  refine (HS.out _ HI1.out).mono ?_
  rintro e1 W2 ⟨rfl, hI2, hk2⟩
  have HI2 := Lib.hid hI2
  clear hI2 hk2
  go_wp2_with fail
  refine (HS.out _ HI2.out).mono ?_
  rintro e1 W3 ⟨rfl, hI3, hk3⟩
  have HI3 := Lib.hid hI3
  clear hI3 hk3
  go_wp2_with fail
  refine (HE.out _ HI3.out.low).mono ?_
  rintro e1 W4 ⟨rfl, hb4⟩
  have HB4 := Lib.hid (below_then HI3.out.low HI3.out.low.size hb4)
  clear hb4
  go_wp2_with fail
  go_ret
  exact ⟨by rw [← HR.out]; rfl, HB4.out⟩
def intOk (n : Int) : Bool := decide (-9223372036854775808 ≤ n) && decide (n ≤ 9223372036854775807)
theorem intOk_all {l : List Int} (h : l.all intOk = true) : ∀ n ∈ l, -9223372036854775808 ≤ n ∧ n ≤ 9223372036854775807 := by
  intro n hn
  have := List.all_eq_true.mp h n hn
  simpa [intOk] using this
def fitsF (a0 a1 : Int) (l : List S47) (s : Int) : Bool := [a0, a1, (l.length : Int), s].all intOk && l.all fun o => [o.f0, o.f1, o.f2, o.f3, o.f4].all intOk
def fitsA (a0 a1 : Int) (l : List S49) : Bool := [a0, a1, (l.length : Int)].all intOk && l.all fun o => [o.f0, o.f1].all intOk
def bank_Write.f (k : Nat) (a0 a1 : Int) (l : List S47) : Option (ByteArray × Int) := (bank_Valid.f k a0 a1 l).bind fun t => if t = true then ((bank_total.f k a0 a1 l).bind fun s => if fitsF a0 a1 l s = true then ((closedL k (fileL a0 a1 l s)).bind fun x => some (x, 0)) else none) else some (⟨#[]⟩, 2)
def bank_WriteAnswer.f (k : Nat) (a0 a1 : Int) (l : List S49) : Option (ByteArray × Int) := (bank_Right.f k a0 a1 l).bind fun t => if t = true then (if fitsA a0 a1 l = true then ((closedL k (answerL a0 a1 l)).bind fun x => some (x, 0)) else none) else some (⟨#[]⟩, 2)
set_option maxHeartbeats 1000000 in
set_option maxRecDepth 100000 in
theorem bank_Write.calls (k : Nat) (a0_0 : Int) (a0_1 : Int) (A0_2 : Option Addr) (c0_2 : Nat) (l0_2 : List (S47)) (r1 : ByteArray) (r2 : Int) (w : World) (hr0_2 : Kd.C k47 w A0_2 l0_2.length l0_2) (hc0_2 : l0_2.length ≤ c0_2) (hG : GG w) (h : bank_Write.f k a0_0 a0_1 l0_2 = some (r1, r2)) :
    Calls Tryz.prog 23 #[.agg #[.int .i64 a0_0, .int .i64 a0_1, .slice A0_2 l0_2.length c0_2]] w fun e w' => e = .returned (.tuple #[.string r1, .int .i64 r2]) ∧ Below w.heap.size w w' := by
  have hb0 := bla (Below.refl w.heap.size w) (.cells #[.int .i64 a0_0, .int .i64 a0_1, .slice A0_2 l0_2.length c0_2] 27)
  have hf0 := heap_alloc_new w (.cells #[.int .i64 a0_0, .int .i64 a0_1, .slice A0_2 l0_2.length c0_2] 27)
  unfold bank_Write.f at h
  obtain ⟨t, ht, h⟩ := Option.bind_eq_some_iff.mp h
  have HV := Lib.hid (bank_Valid.calls k a0_0 a0_1 A0_2 c0_2 l0_2 t _ (Kd.C_below hr0_2 hb0) hc0_2 ht)
  have HB0 := Lib.hid hb0
  have HF0 := Lib.hid hf0
  cases t with
  | false =>
    simp only [Bool.false_eq_true, if_false, Option.some.injEq, Prod.mk.injEq] at h
    obtain ⟨rfl, rfl⟩ := h
    clear hr0_2 hc0_2 hG hb0 hf0 ht
    go_enter Tryz.func23, Tryz.ntmps23
    go_wp2_with fail
    refine HV.out.mono ?_
    rintro e W1 ⟨rfl, hb1⟩
    have HB1 := Lib.hid (below_then HB0.out HB0.out.size hb1)
    clear hb1 HV
    go_wp2_with fail
    go_ret2
    exact ⟨rfl, HB1.out⟩
  | true =>
    simp only [if_true] at h
    obtain ⟨s, hs, h⟩ := Option.bind_eq_some_iff.mp h
    split at h
    · rename_i hfit
      obtain ⟨x, hx, h⟩ := Option.bind_eq_some_iff.mp h
      simp only [Option.some.injEq, Prod.mk.injEq] at h
      obtain ⟨rfl, rfl⟩ := h
      unfold fitsF at hfit
      obtain ⟨h1, h2⟩ := Bool.and_eq_true_iff.mp hfit
      have hlen : (fileL a0_0 a0_1 l0_2 s).length ≤ 140737488355328 := by
        unfold closedL at hx
        split at hx
        · assumption
        · cases hx
      have HW : ∀ W1, Below (w.alloc (.cells #[.int .i64 a0_0, .int .i64 a0_1, .slice A0_2 l0_2.length c0_2] 27)).heap.size (w.alloc (.cells #[.int .i64 a0_0, .int .i64 a0_1, .slice A0_2 l0_2.length c0_2] 27)) W1 →
          Calls Tryz.prog 44 #[.func (.func 45) #[] #[.pointer (some ⟨w.heap.size, 0, none⟩)]] W1 fun e W' => e = .returned (.string x) ∧ Below w.heap.size w W' := by
        intro W1 hb1
        have hz : w.heap.size < (w.alloc (.cells #[.int .i64 a0_0, .int .i64 a0_1, .slice A0_2 l0_2.length c0_2] 27)).heap.size := (Array.getElem?_eq_some_iff.1 hf0).1
        have hf1 := (hb1.block _ hz).trans hf0
        refine written_W w hG W1 (below_then hb0 hb0.size hb1) w.heap.size _ k x hx (Nat.lt_of_lt_of_le hz hb1.size) _ 27 (by decide) hf1 ?_
        intro b W' hI hg hgb
        exact Write1_go w hG b w.heap.size [] a0_0 a0_1 A0_2 c0_2 l0_2 W' hI hg hgb hr0_2 hc0_2 k s hs (intOk_all h1) (fun o ho => intOk_all (List.all_eq_true.mp h2 o ho)) (by simpa using hlen)
      have HWr := Lib.hid HW
      clear hr0_2 hc0_2 hG hb0 hf0 ht HW hlen h1 h2 hfit hx hs
      go_enter Tryz.func23, Tryz.ntmps23
      go_wp2_with fail
      refine HV.out.mono ?_
      rintro e W1 ⟨rfl, hb1⟩
      have HB1 := Lib.hid hb1
      clear hb1 HV
      go_wp2_with fail
      refine (HWr.out _ HB1.out).mono ?_
      rintro e W2 ⟨rfl, hb2⟩
      have HB2 := Lib.hid hb2
      clear hb2
      go_wp2_with fail
      go_ret2
      exact ⟨rfl, HB2.out⟩
    · cases h
set_option maxHeartbeats 1000000 in
set_option maxRecDepth 100000 in
theorem bank_WriteAnswer.calls (k : Nat) (a0_0 : Int) (a0_1 : Int) (A0_2 : Option Addr) (c0_2 : Nat) (l0_2 : List (S49)) (r1 : ByteArray) (r2 : Int) (w : World) (hr0_2 : Kd.C k49 w A0_2 l0_2.length l0_2) (hc0_2 : l0_2.length ≤ c0_2) (hG : GG w) (h : bank_WriteAnswer.f k a0_0 a0_1 l0_2 = some (r1, r2)) :
    Calls Tryz.prog 29 #[.agg #[.int .i64 a0_0, .int .i64 a0_1, .slice A0_2 l0_2.length c0_2]] w fun e w' => e = .returned (.tuple #[.string r1, .int .i64 r2]) ∧ Below w.heap.size w w' := by
  have hb0 := bla (Below.refl w.heap.size w) (.cells #[.int .i64 a0_0, .int .i64 a0_1, .slice A0_2 l0_2.length c0_2] 30)
  have hf0 := heap_alloc_new w (.cells #[.int .i64 a0_0, .int .i64 a0_1, .slice A0_2 l0_2.length c0_2] 30)
  unfold bank_WriteAnswer.f at h
  obtain ⟨t, ht, h⟩ := Option.bind_eq_some_iff.mp h
  have HV := Lib.hid (bank_Right.calls k a0_0 a0_1 A0_2 c0_2 l0_2 t _ (Kd.C_below hr0_2 hb0) hc0_2 ht)
  have HB0 := Lib.hid hb0
  have HF0 := Lib.hid hf0
  cases t with
  | false =>
    simp only [Bool.false_eq_true, if_false, Option.some.injEq, Prod.mk.injEq] at h
    obtain ⟨rfl, rfl⟩ := h
    clear hr0_2 hc0_2 hG hb0 hf0 ht
    go_enter Tryz.func29, Tryz.ntmps29
    go_wp2_with fail
    refine HV.out.mono ?_
    rintro e W1 ⟨rfl, hb1⟩
    have HB1 := Lib.hid (below_then HB0.out HB0.out.size hb1)
    clear hb1 HV
    go_wp2_with fail
    go_ret2
    exact ⟨rfl, HB1.out⟩
  | true =>
    simp only [if_true] at h
    split at h
    · rename_i hfit
      obtain ⟨x, hx, h⟩ := Option.bind_eq_some_iff.mp h
      simp only [Option.some.injEq, Prod.mk.injEq] at h
      obtain ⟨rfl, rfl⟩ := h
      unfold fitsA at hfit
      obtain ⟨h1, h2⟩ := Bool.and_eq_true_iff.mp hfit
      have hlen : (answerL a0_0 a0_1 l0_2).length ≤ 140737488355328 := by
        unfold closedL at hx
        split at hx
        · assumption
        · cases hx
      have HW : ∀ W1, Below (w.alloc (.cells #[.int .i64 a0_0, .int .i64 a0_1, .slice A0_2 l0_2.length c0_2] 30)).heap.size (w.alloc (.cells #[.int .i64 a0_0, .int .i64 a0_1, .slice A0_2 l0_2.length c0_2] 30)) W1 →
          Calls Tryz.prog 44 #[.func (.func 54) #[] #[.pointer (some ⟨w.heap.size, 0, none⟩)]] W1 fun e W' => e = .returned (.string x) ∧ Below w.heap.size w W' := by
        intro W1 hb1
        have hz : w.heap.size < (w.alloc (.cells #[.int .i64 a0_0, .int .i64 a0_1, .slice A0_2 l0_2.length c0_2] 30)).heap.size := (Array.getElem?_eq_some_iff.1 hf0).1
        have hf1 := (hb1.block _ hz).trans hf0
        refine written_A w hG W1 (below_then hb0 hb0.size hb1) w.heap.size _ k x hx (Nat.lt_of_lt_of_le hz hb1.size) _ 30 (by decide) hf1 ?_
        intro b W' hI hg hgb
        exact WriteAnswer1_go w hG b w.heap.size [] a0_0 a0_1 A0_2 c0_2 l0_2 W' hI hg hgb hr0_2 hc0_2 (intOk_all h1) (fun o ho => intOk_all (List.all_eq_true.mp h2 o ho)) (by simpa using hlen)
      have HWr := Lib.hid HW
      clear hr0_2 hc0_2 hG hb0 hf0 ht HW hlen h1 h2 hfit hx
      go_enter Tryz.func29, Tryz.ntmps29
      go_wp2_with fail
      refine HV.out.mono ?_
      rintro e W1 ⟨rfl, hb1⟩
      have HB1 := Lib.hid hb1
      clear hb1 HV
      go_wp2_with fail
      refine (HWr.out _ HB1.out).mono ?_
      rintro e W2 ⟨rfl, hb2⟩
      have HB2 := Lib.hid hb2
      clear hb2
      go_wp2_with fail
      go_ret2
      exact ⟨rfl, HB2.out⟩
    · cases h
end
end Go.Proofs.YtndojpcjhkncgaaGreatDoor.Q
end
section
namespace Go.Proofs.YtndojpcjhkncgaaGreatDoor.Q
open Go.RowKit Go.Proofs.YtndojpcjhkncgaaGreatDoorW.PrintWords Go.Proofs.YtndojpcjhkncgaaGreatDoorW.PrintLast Go.Proofs.YtndojpcjhkncgaaGreatDoorW.PrintMore
section
def aR_hex.l0 : Nat → Int → ByteArray → Int → Option (ByteArray)
 | 0, _, _, _ => none
 | k + 1, x0, x4, x5 => if x5 < 8 then (if 0 ≤ (Int.tmod x0 16) then (if (Int.tmod x0 16) ≤ (wrap64 ((Int.tmod x0 16) + 1)) then (if (wrap64 ((Int.tmod x0 16) + 1)) ≤ 16 then (if ((⟨#[48, 49, 50, 51, 52, 53, 54, 55, 56, 57, 97, 98, 99, 100, 101, 102]⟩ : ByteArray).extract ((Int.tmod x0 16) : Int).toNat ((wrap64 ((Int.tmod x0 16) + 1)) : Int).toNat).size + x4.size ≤ 9223372036854775807 then (aR_hex.l0 k (wrap64 (Int.tdiv x0 16)) (((⟨#[48, 49, 50, 51, 52, 53, 54, 55, 56, 57, 97, 98, 99, 100, 101, 102]⟩ : ByteArray).extract ((Int.tmod x0 16) : Int).toNat ((wrap64 ((Int.tmod x0 16) + 1)) : Int).toNat) ++ x4) (wrap64 (x5 + 1))) else (none)) else (none)) else (none)) else (none)) else (some x4)
def aR_hex.f (k : Nat) (a0 : Int) : Option (ByteArray) := aR_hex.l0 k a0 (⟨#[]⟩ : ByteArray) 0
set_option maxHeartbeats 8000000 in
set_option maxRecDepth 100000 in
theorem aR_hex.calls (k : Nat) (a0 : Int) (r : ByteArray) (w : World) (h : aR_hex.f k a0 = some r) :
  Calls Tryz.prog 34 #[.int .i64 a0] w fun e w' => e = .returned (.string r) ∧ Drawn0 w w' := by
 have H : (aR_hex.l0 k a0 (⟨#[]⟩ : ByteArray) 0) = some r := h; clear h; have H' := Zs.mk H; clear H
 go_enter Tryz.func34, Tryz.ntmps34
 go_wp2
 go_loopg [0, 4, 5] k (fun kq v0 v4 v5 w' => ∃ (x0_1 : Int) (x4_1 : ByteArray) (x5_1 : Int), v0 = .int .i64 x0_1 ∧ v4 = .string x4_1 ∧ v5 = .int .i64 x5_1 ∧ Zs (aR_hex.l0 kq x0_1 x4_1 x5_1 = some r) ∧ Zs (kq ≤ k) ∧ Drawn0 w w')
 case atStart => exact ⟨(a0), ((⟨#[]⟩ : ByteArray)), (0), zs, zs, zs, H', ⟨Nat.le_refl _⟩, by repeat (first | exact Drawn0.refl _ | apply Drawn0.step)⟩
 case round =>
  clear H'; obtain ⟨x0_1, x4_1, x5_1, rfl, rfl, rfl, HA, HK1, ⟨m1, rfl⟩⟩ := hrel
  cases gk with
  | zero => exact absurd HA.out (by simp [aR_hex.l0])
  | succ k1 =>
   have H := HA.out; clear HA
   simp only [aR_hex.l0] at H
   by_cases c2 : x5_1 < 8
   ·
    rw [if_pos c2] at H
    have c2b0 := decide_eq_true c2; clear c2
    obtain ⟨ji3, hji3⟩ : ∃ j_ : Int, (Int.tmod x0_1 16) = j_ := ⟨_, rfl⟩
    replace H : (if 0 ≤ (ji3) then (if (ji3) ≤ (wrap64 ((ji3) + 1)) then (if (wrap64 ((ji3) + 1)) ≤ 16 then (if ((⟨#[48, 49, 50, 51, 52, 53, 54, 55, 56, 57, 97, 98, 99, 100, 101, 102]⟩ : ByteArray).extract ((ji3) : Int).toNat ((wrap64 ((ji3) + 1)) : Int).toNat).size + x4_1.size ≤ 9223372036854775807 then (aR_hex.l0 k1 (wrap64 (Int.tdiv x0_1 16)) (((⟨#[48, 49, 50, 51, 52, 53, 54, 55, 56, 57, 97, 98, 99, 100, 101, 102]⟩ : ByteArray).extract ((ji3) : Int).toNat ((wrap64 ((ji3) + 1)) : Int).toNat) ++ x4_1) (wrap64 (x5_1 + 1))) else (none)) else (none)) else (none)) else (none)) = some r := by first | (rw [hji3] at H; exact H) | (simp only [hji3] at H ⊢; exact H)
    have c4 := zc H
    rw [if_pos c4] at H
    have c4b0 := eq_true c4; have c4b1 := decide_eq_true c4; clear c4
    have c5 := zc H
    rw [if_pos c5] at H
    have c5b0 := eq_true c5; have c5b1 := decide_eq_true c5
    have c6 := zc H
    rw [if_pos c6] at H
    have c6b0 := eq_true c6; have c6b1 := decide_eq_true c6
    have c7 := zc H
    rw [if_pos c7] at H
    have c7b0 := eq_true c7; have c7b1 := decide_eq_true c7
    try have c7b2 : (9223372036854775807 < ((⟨#[48, 49, 50, 51, 52, 53, 54, 55, 56, 57, 97, 98, 99, 100, 101, 102]⟩ : ByteArray).extract ((ji3) : Int).toNat ((wrap64 ((ji3) + 1)) : Int).toNat).size + x4_1.size) = False := eq_false (Nat.not_lt.2 c7)
    have H' := Zs.mk H; clear H
    go_wp2
    go_roundg k1
    case measure => have := HK1.out; omega
    case rel => exact ⟨(wrap64 (Int.tdiv x0_1 16)), (((⟨#[48, 49, 50, 51, 52, 53, 54, 55, 56, 57, 97, 98, 99, 100, 101, 102]⟩ : ByteArray).extract ((ji3) : Int).toNat ((wrap64 ((ji3) + 1)) : Int).toNat) ++ x4_1), (wrap64 (x5_1 + 1)), zs, (by first | rfl | (simp; done) | (simp only [← hji3] <;> (first | rfl | simp)) | (simp [*]; done)), zs, H', ⟨by have := HK1.out; omega⟩, by repeat (first | exact Drawn0.refl _ | apply Drawn0.step)⟩
   ·
    rw [if_neg c2] at H
    have c2b0 := decide_eq_false c2; clear c2; obtain rfl := Option.some.inj H
    go_wp2
    go_ret
    exact ⟨by first | rfl | (simp; done) | (simp [*]; done), by repeat (first | exact Drawn0.refl _ | apply Drawn0.step)⟩
end
section
def aR_End.l0 : Nat → ByteArray → Int → Int → Int → Option (ByteArray)
 | 0, _, _, _, _ => none
 | k + 1, x0, x3, x4, x5 => if x5 < (x0.size : Int) then (if 0 ≤ x5 then (aR_End.l0 k x0 (Int.tmod (wrap64 (x3 + (wrap64 (bt x0 x5)))) 4294967296) (Int.tmod (wrap64 (x4 + (wrap64 ((wrap64 (x5 + 1)) * (wrap64 (bt x0 x5)))))) 4294967296) (wrap64 (x5 + 1))) else (none)) else ((aR_hex.f k x3).bind fun t221 => (if 4 + t221.size ≤ 9223372036854775807 then (if 4 + t221.size + 1 ≤ 9223372036854775807 then ((aR_hex.f k x4).bind fun t222 => (if 4 + t221.size + 1 + t222.size ≤ 9223372036854775807 then (if 4 + t221.size + 1 + t222.size + 1 ≤ 9223372036854775807 then (some (((((⟨#[69, 78, 68, 32]⟩ : ByteArray) ++ t221) ++ (⟨#[32]⟩ : ByteArray)) ++ t222) ++ (⟨#[10]⟩ : ByteArray))) else (none)) else (none))) else (none)) else (none)))
def aR_End.f (k : Nat) (a0 : ByteArray) : Option (ByteArray) := aR_End.l0 k a0 0 0 0
set_option maxHeartbeats 8000000 in
set_option maxRecDepth 100000 in
theorem aR_End.calls (k : Nat) (a0 : ByteArray) (r : ByteArray) (w : World) (h : aR_End.f k a0 = some r) :
  Calls Tryz.prog 11 #[.string a0] w fun e w' => e = .returned (.string r) ∧ Drawn0 w w' := by
 have H : (aR_End.l0 k a0 0 0 0) = some r := h; clear h; have H' := Zs.mk H; clear H
 go_enter Tryz.func11, Tryz.ntmps11
 go_wp2
 go_loopg [3, 4, 5] k (fun kq v3 v4 v5 w' => ∃ (x3_1 : Int) (x4_1 : Int) (x5_1 : Int), v3 = .int .i64 x3_1 ∧ v4 = .int .i64 x4_1 ∧ v5 = .int .i64 x5_1 ∧ Zs (aR_End.l0 kq a0 x3_1 x4_1 x5_1 = some r) ∧ Zs (kq ≤ k) ∧ Drawn0 w w')
 case atStart => exact ⟨(0), (0), (0), zs, zs, zs, H', ⟨Nat.le_refl _⟩, by repeat (first | exact Drawn0.refl _ | apply Drawn0.step)⟩
 case round =>
  clear H'
  obtain ⟨x3_1, x4_1, x5_1, rfl, rfl, rfl, HA, HK1, ⟨m1, rfl⟩⟩ := hrel
  cases gk with
  | zero => exact absurd HA.out (by simp [aR_End.l0])
  | succ k1 =>
   have H := HA.out; clear HA
   simp only [aR_End.l0] at H
   by_cases c2 : x5_1 < (a0.size : Int)
   ·
    rw [if_pos c2] at H
    have c2b0 := decide_eq_true c2; clear c2
    have c3 := zc H
    rw [if_pos c3] at H
    have c3b0 := decide_eq_true c3; clear c3; have H' := Zs.mk H; clear H; have p4 : 0 ≤ (x5_1 : Int) := zD; have q4 : x5_1 < (a0.size : Int) := zD; have hx4 := bt_at a0 x5_1; replace p4 := eq_true p4; replace q4 := eq_true q4; have p5 : 0 ≤ (x5_1 : Int) := zD; have q5 : x5_1 < (a0.size : Int) := zD; have hx5 := bt_at a0 x5_1; replace p5 := eq_true p5; replace q5 := eq_true q5
    go_wp2
    go_roundg k1
    case measure => have := HK1.out; omega
    case rel => exact ⟨(Int.tmod (wrap64 (x3_1 + (wrap64 (bt a0 x5_1)))) 4294967296), (Int.tmod (wrap64 (x4_1 + (wrap64 ((wrap64 (x5_1 + 1)) * (wrap64 (bt a0 x5_1)))))) 4294967296), (wrap64 (x5_1 + 1)), zs, zs, zs, H', ⟨by have := HK1.out; omega⟩, by repeat (first | exact Drawn0.refl _ | apply Drawn0.step)⟩
   ·
    rw [if_neg c2] at H
    have c2b0 := decide_eq_false c2; clear c2; obtain ⟨t221, A6, H⟩ := zb H; (try dsimp only [-Int.reduceToNat] at H)
    have c7 := zc H
    rw [if_pos c7] at H
    have c7b0 := eq_true c7; have c7b1 := decide_eq_true c7
    try have c7b2 : (9223372036854775807 < 4 + t221.size) = False := eq_false (Nat.not_lt.2 c7)
    have c8 := zc H
    rw [if_pos c8] at H
    have c8b0 := eq_true c8; have c8b1 := decide_eq_true c8
    try have c8b2 : (9223372036854775807 < 4 + t221.size + 1) = False := eq_false (Nat.not_lt.2 c8)
    obtain ⟨t222, A9, H⟩ := zb H; (try dsimp only [-Int.reduceToNat] at H)
    have c10 := zc H
    rw [if_pos c10] at H
    have c10b0 := eq_true c10; have c10b1 := decide_eq_true c10
    try have c10b2 : (9223372036854775807 < 4 + t221.size + 1 + t222.size) = False := eq_false (Nat.not_lt.2 c10)
    have c11 := zc H
    rw [if_pos c11] at H
    have c11b0 := eq_true c11; have c11b1 := decide_eq_true c11
    try have c11b2 : (9223372036854775807 < 4 + t221.size + 1 + t222.size + 1) = False := eq_false (Nat.not_lt.2 c11)
    obtain rfl := Option.some.inj H
    go_wp2_with (first | ((with_reducible refine gkc (f := 34) rfl ?_); refine zgo (some 30) Tryz.func34 #[.int .i64 x3_1] ?_; (with_reducible refine (aR_hex.calls k1 x3_1 t221 _ A6.out).mono ?_); rintro e w' ⟨rfl, ⟨nd, rfl⟩⟩; refine ⟨_, rfl, ?_⟩) | ((with_reducible refine gkc (f := 34) rfl ?_); refine zgo (some 34) Tryz.func34 #[.int .i64 x4_1] ?_; (with_reducible refine (aR_hex.calls k1 x4_1 t222 _ A9.out).mono ?_); rintro e w' ⟨rfl, ⟨nd, rfl⟩⟩; refine ⟨_, rfl, ?_⟩))
    go_ret
    exact ⟨by first | rfl | (simp; done) | (simp [*]; done), by repeat (first | exact Drawn0.refl _ | apply Drawn0.step)⟩
end
section
mutual
def aR_decimal.l0 : Nat → Int → ByteArray → Option (ByteArray)
 | 0, _, _ => none
 | k + 1, x0, x3 => if x0 > 9 then ((some (([(wrap64 (48 + (Int.tmod (wrap64 (Int.tdiv x0 10)) 10))) % 256] : List Int) : List Int)).bind fun y231 => (if (strOfNums y231).size + x3.size ≤ 9223372036854775807 then (aR_decimal.l0 k (wrap64 (Int.tdiv x0 10)) ((strOfNums y231) ++ x3)) else (none))) else (some x3)
def aR_decimal.f : Nat → Int → Option (ByteArray)
 | 0, _ => none
 | k + 1, a0 => if a0 < 0 then ((aR_decimal.f k (wrap64 (-a0))).bind fun t227 => (if 1 + t227.size ≤ 9223372036854775807 then (some ((⟨#[45]⟩ : ByteArray) ++ t227)) else (none))) else (aR_decimal.l0 k a0 (strOfNums (([(wrap64 (48 + (Int.tmod a0 10))) % 256] : List Int))))
end
set_option maxHeartbeats 8000000 in
set_option maxRecDepth 100000 in
theorem aR_decimal.calls (k : Nat) : ∀ (a0 : Int) (r : ByteArray) (w : World) (h : aR_decimal.f k a0 = some r),
  Calls Tryz.prog 58 #[.int .i64 a0] w fun e w' => e = .returned (.string r) ∧ Below w.heap.size w w' := by
 induction k using Nat.strongRecOn with
 | _ k ih =>
 intro a0 r w h
 cases k with
 | zero => exact absurd h (by simp [aR_decimal.f])
 | succ k =>
 simp only [aR_decimal.f] at h
 have HB := Zs.mk (Below.refl w.heap.size w); have H : (if a0 < 0 then ((aR_decimal.f k (wrap64 (-a0))).bind fun t227 => (if 1 + t227.size ≤ 9223372036854775807 then (some ((⟨#[45]⟩ : ByteArray) ++ t227)) else (none))) else (aR_decimal.l0 k a0 (strOfNums (([(wrap64 (48 + (Int.tmod a0 10))) % 256] : List Int))))) = some r := h; clear h
 by_cases c2 : a0 < 0
 ·
  rw [if_pos c2] at H
  have c2b0 := decide_eq_true c2; clear c2; obtain ⟨t227, A3, H⟩ := zb H; (try dsimp only [-Int.reduceToNat] at H)
  have c4 := zc H
  rw [if_pos c4] at H
  have c4b0 := eq_true c4; have c4b1 := decide_eq_true c4
  try have c4b2 : (9223372036854775807 < 1 + t227.size) = False := eq_false (Nat.not_lt.2 c4)
  obtain rfl := Option.some.inj H
  go_enter Tryz.func58, Tryz.ntmps58
  go_wp2_with (first | ((with_reducible refine gkc (f := 58) rfl ?_); refine zgo (some 8) Tryz.func58 #[.int .i64 (wrap64 (-a0))] ?_; (with_reducible refine (ih k (by omega) (wrap64 (-a0)) t227 _ A3.out).mono ?_); rintro e w5 ⟨rfl, hb⟩; refine ⟨_, rfl, ?_⟩; replace HB := zBs hb))
  go_ret
  exact ⟨zE, zB⟩
 ·
  rw [if_neg c2] at H
  have c2b0 := decide_eq_false c2; clear c2
  obtain ⟨y228, hy228⟩ : ∃ y_ : List Int, y_ = (([(wrap64 (48 + (Int.tmod a0 10))) % 256] : List Int)) := ⟨_, rfl⟩
  replace H : (aR_decimal.l0 k a0 (strOfNums y228)) = some r := by first | (rw [hy228]; with_reducible exact H) | (have H2_ := (Option.bind_some _ _).symm.trans H; rw [hy228]; with_reducible exact H2_) | (have H2_ := (Option.bind_some _ _).symm.trans H; with_reducible exact H2_) | with_reducible exact H | (rw [hy228]; exact H) | exact H
  have Ny228 := Zs.mk hy228; clear hy228; have H' := Zs.mk H; clear H
  go_enter Tryz.func58, Tryz.ntmps58
  go_wp2_with (first | ((with_reducible refine gkd (N := 14) rfl ?_); refine Kd.R_lit (Kd.int .u8) _ 5 ?hg (N := 14) ?hd (xs := ([(wrap64 (48 + (Int.tmod a0 10))) % 256] : List Int)) (inner := [.int .u8 ((wrap64 (48 + (Int.tmod a0 10))) % 256)]) (ok := fun _ => True) (okp := fun _ => True) ?hr ?hp (fun _ hk => hk) trivial (Below.refl _ _) (Nat.le_refl _) (by simp) ?_; (case hd => rfl); (case hg => rfl); (case hr => first | (go_simp; done) | (go_simp; rfl)); (case hp => exact (Reps.one (show Kd.M (Kd.int .u8) _ _ _ ((wrap64 (48 + (Int.tmod a0 10))) % 256) [.int .u8 ((wrap64 (48 + (Int.tmod a0 10))) % 256)] from rfl) (Reps.none _ _))); intro v229 w6 ho7 hb hg_ hnew_; clear hg_ hnew_; (first | rw [← Ny228.out] at ho7 | (simp only [Int.reduceToNat] at ho7; rw [← Ny228.out] at ho7)); have HO230 := Zs.mk (Kd.R_lower ho7 (bsz zB)); replace HB := zBs hb; clear hb ho7; have hcv8 := own_string (P := Tryz.prog) Tryz.underlying53 Tryz.underlying5 Tryz.underlying9 (Kd.own_of_R HO230.out)))
  go_loopg [0, 3] k (fun kq v0 v3 w' => ∃ (x0_1 : Int) (x3_1 : ByteArray), v0 = .int .i64 x0_1 ∧ v3 = .string x3_1 ∧ Zs (aR_decimal.l0 kq x0_1 x3_1 = some r) ∧ Zs (kq ≤ k) ∧ Zs (Below w.heap.size w w'))
  case atStart => exact ⟨(a0), (strOfNums y228), zs, zs, H', ⟨Nat.le_refl _⟩, ⟨zB⟩⟩
  case round =>
   clear H'
   obtain ⟨x0_1, x3_1, rfl, rfl, HA, HK1, HB⟩ := hrel
   cases gk with
   | zero => exact absurd HA.out (by simp [aR_decimal.l0])
   | succ k1 =>
    have H := HA.out; clear HA
    simp only [aR_decimal.l0] at H
    by_cases c9 : x0_1 > 9
    ·
     rw [if_pos c9] at H
     have c9b0 := decide_eq_true c9; clear c9
     obtain ⟨y231, hy231⟩ : ∃ y_ : List Int, y_ = (([(wrap64 (48 + (Int.tmod (wrap64 (Int.tdiv x0_1 10)) 10))) % 256] : List Int)) := ⟨_, rfl⟩
     replace H : (if (strOfNums y231).size + x3_1.size ≤ 9223372036854775807 then (aR_decimal.l0 k1 (wrap64 (Int.tdiv x0_1 10)) ((strOfNums y231) ++ x3_1)) else (none)) = some r := by first | (rw [hy231]; with_reducible exact H) | (have H2_ := (Option.bind_some _ _).symm.trans H; rw [hy231]; with_reducible exact H2_) | (have H2_ := (Option.bind_some _ _).symm.trans H; with_reducible exact H2_) | with_reducible exact H | (rw [hy231]; exact H) | exact H
     have Ny231 := Zs.mk hy231; clear hy231
     have c10 := zc H
     rw [if_pos c10] at H
     have c10b0 := eq_true c10; have c10b1 := decide_eq_true c10
     try have c10b2 : (9223372036854775807 < (strOfNums y231).size + x3_1.size) = False := eq_false (Nat.not_lt.2 c10)
     have H' := Zs.mk H; clear H
     go_wp2_with (first | ((with_reducible refine gkd (N := 24) rfl ?_); refine Kd.R_lit (Kd.int .u8) _ 5 ?hg (N := 24) ?hd (xs := ([(wrap64 (48 + (Int.tmod (wrap64 (Int.tdiv x0_1 10)) 10))) % 256] : List Int)) (inner := [.int .u8 ((wrap64 (48 + (Int.tmod (wrap64 (Int.tdiv x0_1 10)) 10))) % 256)]) (ok := fun _ => True) (okp := fun _ => True) ?hr ?hp (fun _ hk => hk) trivial (Below.refl _ _) (Nat.le_refl _) (by simp) ?_; (case hd => rfl); (case hg => rfl); (case hr => first | (go_simp; done) | (go_simp; rfl)); (case hp => exact (Reps.one (show Kd.M (Kd.int .u8) _ _ _ ((wrap64 (48 + (Int.tmod (wrap64 (Int.tdiv x0_1 10)) 10))) % 256) [.int .u8 ((wrap64 (48 + (Int.tmod (wrap64 (Int.tdiv x0_1 10)) 10))) % 256)] from rfl) (Reps.none _ _))); intro v232 w11 ho12 hb hg_ hnew_; clear hg_ hnew_; (first | rw [← Ny231.out] at ho12 | (simp only [Int.reduceToNat] at ho12; rw [← Ny231.out] at ho12)); have HO233 := Zs.mk (Kd.R_lower ho12 (bsz zB)); replace HB := zBs hb; clear hb ho12; have hcv13 := own_string (P := Tryz.prog) Tryz.underlying53 Tryz.underlying5 Tryz.underlying9 (Kd.own_of_R HO233.out)))
     go_roundg k1
     case measure => have := HK1.out; omega
     case rel => exact ⟨(wrap64 (Int.tdiv x0_1 10)), ((strOfNums y231) ++ x3_1), zs, zs, H', ⟨by have := HK1.out; omega⟩, ⟨zB⟩⟩
    ·
     rw [if_neg c9] at H
     have c9b0 := decide_eq_false c9; clear c9; obtain rfl := Option.some.inj H
     go_wp2
     go_ret
     exact ⟨zE, zB⟩
end
section
def aR_line.l0 : Nat → ByteArray → List Int → Int → Option (ByteArray)
 | 0, _, _, _ => none
 | k + 1, x0, x1, x5 => if x5 < (x1.length : Int) then (if x0.size + 1 ≤ 9223372036854775807 then (if 0 ≤ x5 then ((aR_decimal.f k (rd x1 x5)).bind fun t235 => (if x0.size + 1 + t235.size ≤ 9223372036854775807 then (aR_line.l0 k ((x0 ++ (⟨#[32]⟩ : ByteArray)) ++ t235) x1 (wrap64 (x5 + 1))) else (none))) else (none)) else (none)) else (if x0.size + 1 ≤ 9223372036854775807 then (some (x0 ++ (⟨#[10]⟩ : ByteArray))) else (none))
def aR_line.f (k : Nat) (a0 : ByteArray) (l1 : List Int) : Option (ByteArray) := aR_line.l0 k a0 l1 0
set_option maxHeartbeats 8000000 in
set_option maxRecDepth 100000 in
theorem aR_line.calls (k : Nat) (a0 : ByteArray) (A1 : Option Addr) (c1 : Nat) (l1 : List Int) (r : ByteArray) (w : World) (hr1 : Kd.C (Kd.int .i64) w A1 l1.length l1) (hc1 : l1.length ≤ c1) (h : aR_line.f k a0 l1 = some r) :
  Calls Tryz.prog 36 #[.string a0, .slice A1 l1.length c1] w fun e w' => e = .returned (.string r) ∧ Below w.heap.size w w' := by
 have HR1 := Zs.mk hr1; have HC1 := Zs.mk hc1; clear hr1 hc1; have HB := Zs.mk (Below.refl w.heap.size w); have H : (aR_line.l0 k a0 l1 0) = some r := h; clear h; have H' := Zs.mk H; clear H
 go_enter Tryz.func36, Tryz.ntmps36
 go_wp2
 go_loopg [0, 5] k (fun kq v0 v5 w' => ∃ (x0_1 : ByteArray) (x5_1 : Int), v0 = .string x0_1 ∧ v5 = .int .i64 x5_1 ∧ Zs (aR_line.l0 kq x0_1 l1 x5_1 = some r) ∧ Zs (kq ≤ k) ∧ Zs (Below w.heap.size w w'))
 case atStart => exact ⟨(a0), (0), zs, zs, H', ⟨Nat.le_refl _⟩, ⟨zB⟩⟩
 case round =>
  clear H'
  obtain ⟨x0_1, x5_1, rfl, rfl, HA, HK1, HB⟩ := hrel
  cases gk with
  | zero => exact absurd HA.out (by simp [aR_line.l0])
  | succ k1 =>
   have H := HA.out; clear HA
   simp only [aR_line.l0] at H
   by_cases c3 : x5_1 < (l1.length : Int)
   ·
    rw [if_pos c3] at H
    have c3b0 := decide_eq_true c3; clear c3
    have c4 := zc H
    rw [if_pos c4] at H
    have c4b0 := eq_true c4; have c4b1 := decide_eq_true c4
    try have c4b2 : (9223372036854775807 < x0_1.size + 1) = False := eq_false (Nat.not_lt.2 c4)
    have c5 := zc H
    rw [if_pos c5] at H
    have c5b0 := decide_eq_true c5; clear c5; obtain ⟨t235, A6, H⟩ := zb H; (try dsimp only [-Int.reduceToNat] at H)
    have c7 := zc H
    rw [if_pos c7] at H
    have c7b0 := eq_true c7; have c7b1 := decide_eq_true c7
    try have c7b2 : (9223372036854775807 < x0_1.size + 1 + t235.size) = False := eq_false (Nat.not_lt.2 c7)
    have H' := Zs.mk H; clear H; have p234 : 0 ≤ (x5_1 : Int) := zD; have q234 : x5_1 < (l1.length : Int) := zD; obtain ⟨ad234, e234, hx234_0⟩ := Kd.at_int HR1.out x5_1 p234 q234
    cases e234
    replace hx234_0 := zL HB hx234_0; replace p234 := eq_true p234; replace q234 := eq_true q234
    go_wp2_with (first | ((with_reducible refine gkc (f := 58) rfl ?_); refine zgo (some 18) Tryz.func58 #[.int .i64 (rd l1 x5_1)] ?_; (with_reducible refine (aR_decimal.calls k1 (rd l1 x5_1) t235 _ A6.out).mono ?_); rintro e w8 ⟨rfl, hb⟩; refine ⟨_, rfl, ?_⟩; replace HB := zBs hb))
    go_roundg k1
    case measure => have := HK1.out; omega
    case rel => exact ⟨((x0_1 ++ (⟨#[32]⟩ : ByteArray)) ++ t235), (wrap64 (x5_1 + 1)), zs, zs, H', ⟨by have := HK1.out; omega⟩, ⟨zB⟩⟩
   ·
    rw [if_neg c3] at H
    have c3b0 := decide_eq_false c3; clear c3
    have c9 := zc H
    rw [if_pos c9] at H
    have c9b0 := eq_true c9; have c9b1 := decide_eq_true c9
    try have c9b2 : (9223372036854775807 < x0_1.size + 1) = False := eq_false (Nat.not_lt.2 c9)
    obtain rfl := Option.some.inj H
    go_wp2
    go_ret
    exact ⟨zE, zB⟩
end
section
def aR_Write.l0 : Nat → ByteArray → Int → Int → Int → List (S47) → Option (ByteArray × Int)
 | 0, _, _, _, _, _ => none
 | k + 1, x4, x5, x239000, x239001, x239002 => if x5 < (x239002.length : Int) then (if 0 ≤ x5 then ((aR_line.f k (⟨#[111, 114, 100, 101, 114]⟩ : ByteArray) (([(rTO x239002 x5).f0, (rTO x239002 x5).f1, (rTO x239002 x5).f2, (rTO x239002 x5).f3, (rTO x239002 x5).f4] : List Int))).bind fun t250 => (if x4.size + t250.size ≤ 9223372036854775807 then (aR_Write.l0 k (x4 ++ t250) (wrap64 (x5 + 1)) x239000 x239001 x239002) else (none))) else (none)) else ((aR_End.f k x4).bind fun t251 => (if x4.size + t251.size ≤ 9223372036854775807 then (some (x4 ++ t251, 0)) else (none)))
def aR_Write.f (k : Nat) (a0_0 : Int) (a0_1 : Int) (l0_2 : List (S47)) : Option (ByteArray × Int) := (aR_Valid.f k a0_0 a0_1 l0_2).bind fun t239 => (if t239 = true then ((aR_sum.f k a0_0 a0_1 l0_2).bind fun t240 => ((aR_line.f k (⟨#[80, 65, 89]⟩ : ByteArray) (([a0_0, a0_1, (l0_2.length : Int), t240] : List Int))).bind fun t244 => (aR_Write.l0 k t244 0 a0_0 a0_1 l0_2))) else (some ((⟨#[]⟩ : ByteArray), 2)))
def aR_Write.T3 : Bool × List (List Nat × List Nat) := (true, [([], []), ([0], [0]), ([], []), ([2], [2]), ([], []), ([4], [4]), ([5], [5]), ([], []), ([7], [7]), ([1, 3, 6, 8], [1, 3, 6, 8]), ([9, 8], [9]), ([10, 10, 0, 1, 2, 3, 4, 5, 6, 7, 8, 9, 10], [10])])
def aR_Write.B3 : List Nat := [0, 1, 0, 4, 0, 16, 48, 0, 128, 511, 1023, 2047]
theorem aR_Write.tab3 : rtab .any (opsOf Tryz.f13 3) = aR_Write.T3 := by kernel_rfl
theorem aR_Write.bits3 : waitsOk aR_Write.T3.2 aR_Write.B3 = true := by kernel_rfl
set_option maxHeartbeats 8000000 in
set_option maxRecDepth 100000 in
theorem aR_Write.calls (k : Nat) (a0_0 : Int) (a0_1 : Int) (A0_2 : Option Addr) (c0_2 : Nat) (l0_2 : List (S47)) (r1 : ByteArray) (r2 : Int) (w : World) (hr0_2 : Kd.C k47 w A0_2 l0_2.length l0_2) (hc0_2 : l0_2.length ≤ c0_2) (h : aR_Write.f k a0_0 a0_1 l0_2 = some (r1, r2)) :
  Calls Tryz.prog 13 #[.agg #[.int .i64 a0_0, .int .i64 a0_1, .slice A0_2 l0_2.length c0_2]] w fun e w' => e = .returned (.tuple #[.string r1, .int .i64 r2]) ∧ Below w.heap.size w w' := by
 have hu36 := Tryz.underlying36; have hu47 := Tryz.underlying47; have HR0_2 := Zs.mk hr0_2; have HC0_2 := Zs.mk hc0_2; clear hr0_2 hc0_2; have HB := Zs.mk (Below.refl w.heap.size w); have H : ((aR_Valid.f k a0_0 a0_1 l0_2).bind fun t239 => (if t239 = true then ((aR_sum.f k a0_0 a0_1 l0_2).bind fun t240 => ((aR_line.f k (⟨#[80, 65, 89]⟩ : ByteArray) (([a0_0, a0_1, (l0_2.length : Int), t240] : List Int))).bind fun t244 => (aR_Write.l0 k t244 0 a0_0 a0_1 l0_2))) else (some ((⟨#[]⟩ : ByteArray), 2)))) = some (r1, r2) := h; clear h; obtain ⟨t239, A2, H⟩ := zb H; (try dsimp only [-Int.reduceToNat] at H)
 by_cases c3 : t239 = true
 ·
  subst c3
  rw [if_pos rfl] at H
  obtain ⟨t240, A4, H⟩ := zb H; (try dsimp only [-Int.reduceToNat] at H)
  obtain ⟨y241, hy241⟩ : ∃ y_ : List Int, y_ = (([a0_0, a0_1, (l0_2.length : Int), t240] : List Int)) := ⟨_, rfl⟩
  replace H : ((aR_line.f k (⟨#[80, 65, 89]⟩ : ByteArray) y241).bind fun t244 => (aR_Write.l0 k t244 0 a0_0 a0_1 l0_2)) = some (r1, r2) := by first | (rw [hy241]; with_reducible exact H) | (have H2_ := (Option.bind_some _ _).symm.trans H; rw [hy241]; with_reducible exact H2_) | (have H2_ := (Option.bind_some _ _).symm.trans H; with_reducible exact H2_) | with_reducible exact H | (rw [hy241]; exact H) | exact H
  have Ny241 := Zs.mk hy241; clear hy241; obtain ⟨t244, A5, H⟩ := zb H; (try dsimp only [-Int.reduceToNat] at H); have H' := Zs.mk H; clear H
  go_enter Tryz.func13, Tryz.ntmps13
  try go_wp2_with (first | ((with_reducible refine gkd (N := 1) rfl ?_); refine bxe ?hg (N := 1) ?hd (cs := #[.int .i64 a0_0, .int .i64 a0_1, .slice A0_2 l0_2.length c0_2]) (t := 36) ?hr ?_; (case hd => rfl); (case hg => rfl); (case hr => first | (go_simp; done) | (go_simp; rfl)); intro gb238 hg w6 hbox hb; have BK238 := Zs.mk (hbox); have GW238 := zG (w := w) hg; have GE238 := zG (w := w) hg; replace HB := zBs hb; clear hb hbox hg; obtain ⟨hcz7_0, hcz7_1, hcz7_2⟩ := zC3 BK238; obtain ⟨hfz7_0, hfz7_1, hfz7_2⟩ := zZ3 BK238) | ((with_reducible refine gkc (f := 35) rfl ?_); refine zgo (some 8) Tryz.func35 #[.agg #[.int .i64 a0_0, .int .i64 a0_1, .slice A0_2 l0_2.length c0_2]] ?_; (with_reducible refine (aR_Valid.calls k a0_0 a0_1 _ _ l0_2 true _ ?side1 ?side2 A2.out).mono ?_); (case side1 => exact zQC HR0_2); (case side2 => exact HC0_2.out); rintro e w8 ⟨rfl, hb⟩; refine ⟨_, rfl, ?_⟩; replace BK238 := zKb BK238 hb; replace HB := zBs hb))
  replace BK238 := Zs.mk (blk_drew BK238.out); replace HB := Zs.mk (below_drew1 HB.out); 
  refine start_ (n := 12) (S := fun w' => w'.cell? ⟨gb238, 0, none⟩ = some (.int .i64 a0_0) ∧ w'.cell? ⟨gb238, 1, none⟩ = some (.int .i64 a0_1) ∧ w'.cell? ⟨gb238, 2, none⟩ = some (.slice A0_2 l0_2.length c0_2)) (ds := []) (zo 12) (by kernel_rfl) rfl rfl (zC3 BK238) (fun hHeld => ?_); refine with_tabW aR_Write.tab3 aR_Write.bits3 (fun HT_ HW_ => ?_)
  generalize w8.drew = w9 at BK238 HB hHeld ⊢
  refine zp 0 10 (zm 12 1) ?_
  refine zp 2 12 (zm 12 5) ?_
  refine zp 4 14 (zm 12 21) ?_
  refine take_ (i := 1) (N := some 11) (v := ?_) (a' := ?_) (zm 12 23) rfl rfl (take_ofW HT_.out HW_.out (by kernel_rfl)) (fun _ _ _ h => h) (Or.inl ⟨by rfl, ?_⟩) hHeld ?_ ?_
  rotate_left
  ·
   rintro w' ⟨s0, s1, s2⟩
   go_simp
   with_reducible rfl
  rotate_left
  · simp only [Act.put, z1, z2, z3, i64_w, i32_w]; rfl
  refine take_ (i := 3) (N := some 13) (v := ?_) (a' := ?_) (zm 12 31) rfl rfl (take_ofW HT_.out HW_.out (by kernel_rfl)) (fun _ _ _ h => h) (Or.inl ⟨by rfl, ?_⟩) hHeld ?_ ?_
  rotate_left
  ·
   rintro w' ⟨s0, s1, s2⟩
   go_simp
   with_reducible rfl
  rotate_left
  · simp only [Act.put, z1, z2, z3, i64_w, i32_w]; rfl
  refine take_ (i := 5) (N := some 15) (v := ?_) (a' := ?_) (zm 12 63) rfl rfl (take_ofW HT_.out HW_.out (by kernel_rfl)) (fun _ _ _ h => h) (Or.inl ⟨by rfl, ?_⟩) hHeld ?_ ?_
  rotate_left
  ·
   rintro w' ⟨s0, s1, s2⟩
   go_simp
   with_reducible rfl
  rotate_left
  · simp only [Act.put, z1, z2, z3, i64_w, i32_w]; rfl
  refine zp 6 16 (zm 12 127) ?_
  refine take_ (i := 7) (N := some 17) (v := ?_) (a' := ?_) (zm 12 255) rfl rfl (take_ofW HT_.out HW_.out (by kernel_rfl)) (fun _ _ _ h => h) (Or.inl ⟨by rfl, ?_⟩) hHeld ?_ ?_
  rotate_left
  ·
   rintro w' ⟨s0, s1, s2⟩
   go_simp
   with_reducible rfl
  rotate_left
  · simp only [Act.put, z1, z2, z3, i64_w, i32_w]; rfl
  refine one_ (i := 8) (N := some 18) (zm 12 511) rfl rfl (one_of HT_.out (by kernel_rfl)) (by decide) (fun K hK => ?_)
  refine goes_ Tryz.func37 (by kernel_rfl) rfl #[.agg #[.int .i64 a0_0, .int .i64 a0_1, .slice A0_2 l0_2.length c0_2]] (by rfl) rfl rfl (by (try simp only [List.map_toArray, List.map_cons, List.map_nil]); try rfl) ?_
  with_reducible refine (aR_sum.calls k a0_0 a0_1 _ _ l0_2 t240 _ ?side1 ?side2 A4.out).mono ?_
  (case side1 => exact zQC HR0_2)
  (case side2 => exact HC0_2.out)
  rintro e w10 ⟨rfl, hb⟩
  refine ⟨_, rfl, ?_⟩
  replace BK238 := zKb BK238 hb; replace HB := zBs hb
  refine hK.out _ _ (zC3 BK238) (fun hHeld => ?_)
  clear hK K
  refine norm_ (a' := ?_) ?_ ?_
  rotate_left
  ·
   show Act.put _ (some 18) _ = _
   simp only [Act.put, z1, z2, z3, i64_w, i32_w]
   rfl
  refine one_ (i := 9) (N := some 19) (zm 12 1023) rfl rfl (one_of HT_.out (by kernel_rfl)) (by decide) (fun K hK => ?_)
  refine Kd.R_lit_step (Kd.int .i64) _ 3 ?hg (N := 19) ?hd (xs := ([a0_0, a0_1, (l0_2.length : Int), t240] : List Int)) (inner := [.int .i64 a0_0, .int .i64 a0_1, .int .i64 (l0_2.length : Int), .int .i64 t240]) (ok := fun _ => True) (okp := fun _ => True) ?hr ?hp (fun _ hk => hk) trivial (Below.refl _ _) (Nat.le_refl _) (by simp) ?_; (case hd => rfl); (case hg => rfl); (case hr => first | (go_simp; done) | (go_simp; rfl)); (case hp => exact (Reps.one (show Kd.M (Kd.int .i64) _ _ _ a0_0 [.int .i64 a0_0] from rfl) (Reps.one (show Kd.M (Kd.int .i64) _ _ _ a0_1 [.int .i64 a0_1] from rfl) (Reps.one (show Kd.M (Kd.int .i64) _ _ _ (l0_2.length : Int) [.int .i64 (l0_2.length : Int)] from rfl) (Reps.one (show Kd.M (Kd.int .i64) _ _ _ t240 [.int .i64 t240] from rfl) (Reps.none _ _))))))
  intro v242 w11 ho12 hb hg_ hnew_; clear hg_ hnew_
  (first | rw [← Ny241.out] at ho12 | (simp only [Int.reduceToNat] at ho12; rw [← Ny241.out] at ho12))
  have HO243 := Zs.mk (Kd.R_lower ho12 (bsz zB)); replace BK238 := zKb BK238 hb; replace HB := zBs hb; clear hb ho12; obtain ⟨Ao13, co13, eo13⟩ := Kd.R_slice HO243.out
  (first | subst eo13 | (injection eo13 with f1_ f2_ f3_; have f4_ := f1_.symm; have f5_ := f3_.symm; clear f1_ f2_ f3_; subst f4_; subst f5_))
  refine hK.out _ _ (zC3 BK238) (fun hHeld => ?_)
  clear hK K
  refine norm_ (a' := ?_) ?_ ?_
  rotate_left
  ·
   show Act.put _ (some 19) _ = _
   simp only [Act.put, z1, z2, z3, i64_w, i32_w]
   rfl
  refine one_ (i := 10) (N := some 20) (zm 12 2047) rfl rfl (one_of HT_.out (by kernel_rfl)) (by decide) (fun K hK => ?_)
  refine goes_ Tryz.func36 (by kernel_rfl) rfl #[.string (⟨#[80, 65, 89]⟩ : ByteArray), .slice Ao13 y241.length co13] (by rfl) rfl rfl (by (try simp only [List.map_toArray, List.map_cons, List.map_nil]); try rfl) ?_
  with_reducible refine (aR_line.calls k (⟨#[80, 65, 89]⟩ : ByteArray) _ _ y241 t244 _ ?side1 ?side2 A5.out).mono ?_
  (case side1 => exact zQ HO243)
  (case side2 => exact (Kd.R_reads' HO243.out).2.1)
  rintro e w14 ⟨rfl, hb⟩
  refine ⟨_, rfl, ?_⟩
  replace HO243 := zRb HO243 hb; replace BK238 := zKb BK238 hb; replace HB := zBs hb
  refine hK.out _ _ (zC3 BK238) (fun hHeld => ?_)
  clear hK K
  refine norm_ (a' := ?_) ?_ ?_
  rotate_left
  ·
   show Act.put _ (some 20) _ = _
   simp only [Act.put, z1, z2, z3, i64_w, i32_w]
   rfl
  refine zp 11 4 (zm 12 4095) ?_
  refine done_ (done_of HT_.out (by kernel_rfl)) ?_
  try go_wp2
  go_loopg [4, 5] k (fun kq v4 v5 w' => ∃ (x4_1 : ByteArray) (x5_1 : Int), v4 = .string x4_1 ∧ v5 = .int .i64 x5_1 ∧ Zs (aR_Write.l0 kq x4_1 x5_1 a0_0 a0_1 l0_2 = some (r1, r2)) ∧ Zs (kq ≤ k) ∧ Zs (w'.heap[gb238]? = some (.cells #[.int .i64 a0_0, .int .i64 a0_1, (.slice A0_2 l0_2.length c0_2)] 36 (0, 0))) ∧ Zs (Below w.heap.size w w'))
  case atStart => exact ⟨(t244), (0), zs, zs, H', ⟨Nat.le_refl _⟩, ⟨zK BK238⟩, ⟨zB⟩⟩
  case round =>
   clear H'
   obtain ⟨x4_1, x5_1, rfl, rfl, HA, HK1, BK238, HB⟩ := hrel
   cases gk with
   | zero => exact absurd HA.out (by simp [aR_Write.l0])
   | succ k1 =>
    have H := HA.out; clear HA
    simp only [aR_Write.l0] at H
    by_cases c15 : x5_1 < (l0_2.length : Int)
    ·
     rw [if_pos c15] at H
     have c15b0 := decide_eq_true c15; clear c15
     have c16 := zc H
     rw [if_pos c16] at H
     have c16b0 := decide_eq_true c16; clear c16
     obtain ⟨y247, hy247⟩ : ∃ y_ : List Int, y_ = (([(rTO l0_2 x5_1).f0, (rTO l0_2 x5_1).f1, (rTO l0_2 x5_1).f2, (rTO l0_2 x5_1).f3, (rTO l0_2 x5_1).f4] : List Int)) := ⟨_, rfl⟩
     replace H : ((aR_line.f k1 (⟨#[111, 114, 100, 101, 114]⟩ : ByteArray) y247).bind fun t250 => (if x4_1.size + t250.size ≤ 9223372036854775807 then (aR_Write.l0 k1 (x4_1 ++ t250) (wrap64 (x5_1 + 1)) a0_0 a0_1 l0_2) else (none))) = some (r1, r2) := by first | (rw [hy247]; with_reducible exact H) | (have H2_ := (Option.bind_some _ _).symm.trans H; rw [hy247]; with_reducible exact H2_) | (have H2_ := (Option.bind_some _ _).symm.trans H; with_reducible exact H2_) | with_reducible exact H | (rw [hy247]; exact H) | exact H
     have Ny247 := Zs.mk hy247; clear hy247; obtain ⟨t250, A17, H⟩ := zb H; (try dsimp only [-Int.reduceToNat] at H)
     have c18 := zc H
     rw [if_pos c18] at H
     have c18b0 := eq_true c18; have c18b1 := decide_eq_true c18
     try have c18b2 : (9223372036854775807 < x4_1.size + t250.size) = False := eq_false (Nat.not_lt.2 c18)
     have H' := Zs.mk H; clear H; obtain ⟨hcz19_0, hcz19_1, hcz19_2⟩ := zC3 BK238; obtain ⟨hfz19_0, hfz19_1, hfz19_2⟩ := zZ3 BK238; have p245 : 0 ≤ (x5_1 : Int) := zD; have q245 : x5_1 < (l0_2.length : Int) := zD; obtain ⟨ad245, e245, hx245_0, hx245_1, hx245_2, hx245_3, hx245_4⟩ := at_T47 HR0_2.out x5_1 p245 q245
     cases e245
     replace hx245_0 := zL HB hx245_0; replace hx245_1 := zL HB hx245_1; replace hx245_2 := zL HB hx245_2; replace hx245_3 := zL HB hx245_3; replace hx245_4 := zL HB hx245_4; replace p245 := eq_true p245; replace q245 := eq_true q245
     go_wp2_with (first | ((with_reducible refine gkd (N := 6) rfl ?_); refine bxe ?hg (N := 6) ?hd (cs := #[.int .i64 0, .int .i64 0, .int .i64 0, .int .i64 0, .int .i64 0]) (t := 47) ?hr ?_; (case hd => rfl); (case hg => rfl); (case hr => first | (go_simp; done) | (go_simp; rfl)); intro gb246 hg w20 hbox hb; have BK246 := Zs.mk (hbox); have GW246 := zG (w := w) hg; have GE246 := zG (w := w) hg; replace HB := zBs hb; have NB238_246 := zN hg (zK BK238); have NB246_238 := zM hg (zK BK238); replace BK238 := zKb BK238 hb; clear hb hbox hg; have hnb21 := NB246_238.out; have hnc21 := NB238_246.out; obtain ⟨hcz22_0, hcz22_1, hcz22_2, hcz22_3, hcz22_4⟩ := zC5 BK246; obtain ⟨hfz22_0, hfz22_1, hfz22_2, hfz22_3, hfz22_4⟩ := zZ5 BK246) | ((with_reducible refine gkd (N := 44) rfl ?_); refine Kd.R_lit (Kd.int .i64) _ 3 ?hg (N := 44) ?hd (xs := ([(rTO l0_2 x5_1).f0, (rTO l0_2 x5_1).f1, (rTO l0_2 x5_1).f2, (rTO l0_2 x5_1).f3, (rTO l0_2 x5_1).f4] : List Int)) (inner := [.int .i64 ((rTO l0_2 x5_1).f0), .int .i64 ((rTO l0_2 x5_1).f1), .int .i64 ((rTO l0_2 x5_1).f2), .int .i64 ((rTO l0_2 x5_1).f3), .int .i64 ((rTO l0_2 x5_1).f4)]) (ok := fun _ => True) (okp := fun _ => True) ?hr ?hp (fun _ hk => hk) trivial (Below.refl _ _) (Nat.le_refl _) (by simp) ?_; (case hd => rfl); (case hg => rfl); (case hr => first | (go_simp; done) | (go_simp; rfl)); (case hp => exact (Reps.one (show Kd.M (Kd.int .i64) _ _ _ ((rTO l0_2 x5_1).f0) [.int .i64 ((rTO l0_2 x5_1).f0)] from rfl) (Reps.one (show Kd.M (Kd.int .i64) _ _ _ ((rTO l0_2 x5_1).f1) [.int .i64 ((rTO l0_2 x5_1).f1)] from rfl) (Reps.one (show Kd.M (Kd.int .i64) _ _ _ ((rTO l0_2 x5_1).f2) [.int .i64 ((rTO l0_2 x5_1).f2)] from rfl) (Reps.one (show Kd.M (Kd.int .i64) _ _ _ ((rTO l0_2 x5_1).f3) [.int .i64 ((rTO l0_2 x5_1).f3)] from rfl) (Reps.one (show Kd.M (Kd.int .i64) _ _ _ ((rTO l0_2 x5_1).f4) [.int .i64 ((rTO l0_2 x5_1).f4)] from rfl) (Reps.none _ _))))))); intro v248 w23 ho24 hb hg_ hnew_; clear hg_ hnew_; (first | rw [← Ny247.out] at ho24 | (simp only [Int.reduceToNat] at ho24; rw [← Ny247.out] at ho24)); have HO249 := Zs.mk (Kd.R_lower ho24 (bsz zB)); replace BK238 := Zs.mk (blk_below (zF BK238) hb); replace BK246 := Zs.mk (blk_below (g := gb246) (o := .cells #[.int .i64 ((rTO l0_2 x5_1).f0), .int .i64 ((rTO l0_2 x5_1).f1), .int .i64 ((rTO l0_2 x5_1).f2), .int .i64 ((rTO l0_2 x5_1).f3), .int .i64 ((rTO l0_2 x5_1).f4)] 47 (0, 0)) (zY BK246) hb); replace HB := zBs hb; clear hb ho24; obtain ⟨Ao25, co25, eo25⟩ := Kd.R_slice HO249.out; subst eo25) | ((with_reducible refine gkc (f := 36) rfl ?_); refine zgo (some 45) Tryz.func36 #[.string (⟨#[111, 114, 100, 101, 114]⟩ : ByteArray), .slice Ao25 y247.length co25] ?_; (with_reducible refine (aR_line.calls k1 (⟨#[111, 114, 100, 101, 114]⟩ : ByteArray) _ _ y247 t250 _ ?side1 ?side2 A17.out).mono ?_); (case side1 => exact zQ HO249); (case side2 => exact (Kd.R_reads' HO249.out).2.1); rintro e w26 ⟨rfl, hb⟩; refine ⟨_, rfl, ?_⟩; replace HO249 := zRb HO249 hb; replace BK238 := zKb BK238 hb; replace BK246 := zKb BK246 hb; replace HB := zBs hb))
     go_roundg k1
     case measure => have := HK1.out; omega
     case rel => exact ⟨(x4_1 ++ t250), (wrap64 (x5_1 + 1)), zs, zs, H', ⟨by have := HK1.out; omega⟩, ⟨zK BK238⟩, ⟨zB⟩⟩
    ·
     rw [if_neg c15] at H
     have c15b0 := decide_eq_false c15; clear c15; obtain ⟨t251, A27, H⟩ := zb H; (try dsimp only [-Int.reduceToNat] at H)
     have c28 := zc H
     rw [if_pos c28] at H
     have c28b0 := eq_true c28; have c28b1 := decide_eq_true c28
     try have c28b2 : (9223372036854775807 < x4_1.size + t251.size) = False := eq_false (Nat.not_lt.2 c28)
     simp only [Option.some.injEq, Prod.mk.injEq] at H
     obtain ⟨rfl, rfl⟩ := H; obtain ⟨hcz29_0, hcz29_1, hcz29_2⟩ := zC3 BK238; obtain ⟨hfz29_0, hfz29_1, hfz29_2⟩ := zZ3 BK238
     go_wp2_with (first | ((with_reducible refine gkc (f := 11) rfl ?_); refine zgo (some 49) Tryz.func11 #[.string x4_1] ?_; (with_reducible refine (aR_End.calls k1 x4_1 t251 _ A27.out).mono ?_); rintro e w' ⟨rfl, ⟨nd, rfl⟩⟩; refine ⟨_, rfl, ?_⟩))
     go_ret2
     exact ⟨zE, zB⟩
 ·
  replace c3 := Bool.eq_false_iff.mpr c3; subst c3
  rw [if_neg (show ¬ (false = true) by decide)] at H
  simp only [Option.some.injEq, Prod.mk.injEq] at H
  obtain ⟨rfl, rfl⟩ := H
  go_enter Tryz.func13, Tryz.ntmps13
  go_wp2_with (first | ((with_reducible refine gkd (N := 1) rfl ?_); refine bxe ?hg (N := 1) ?hd (cs := #[.int .i64 a0_0, .int .i64 a0_1, .slice A0_2 l0_2.length c0_2]) (t := 36) ?hr ?_; (case hd => rfl); (case hg => rfl); (case hr => first | (go_simp; done) | (go_simp; rfl)); intro gb238 hg w30 hbox hb; have BK238 := Zs.mk (hbox); have GW238 := zG (w := w) hg; have GE238 := zG (w := w) hg; replace HB := zBs hb; clear hb hbox hg; obtain ⟨hcz31_0, hcz31_1, hcz31_2⟩ := zC3 BK238; obtain ⟨hfz31_0, hfz31_1, hfz31_2⟩ := zZ3 BK238) | ((with_reducible refine gkc (f := 35) rfl ?_); refine zgo (some 8) Tryz.func35 #[.agg #[.int .i64 a0_0, .int .i64 a0_1, .slice A0_2 l0_2.length c0_2]] ?_; (with_reducible refine (aR_Valid.calls k a0_0 a0_1 _ _ l0_2 false _ ?side1 ?side2 A2.out).mono ?_); (case side1 => exact zQC HR0_2); (case side2 => exact HC0_2.out); rintro e w32 ⟨rfl, hb⟩; refine ⟨_, rfl, ?_⟩; replace BK238 := zKb BK238 hb; replace HB := zBs hb))
  go_ret2
  exact ⟨zE, zB⟩
end
section
def aR_WriteAnswer.l0 : Nat → ByteArray → Int → Int → Int → List (S78) → Option (ByteArray × Int)
 | 0, _, _, _, _, _ => none
 | k + 1, x4, x5, x328000, x328001, x328002 => if x5 < (x328002.length : Int) then (if 0 ≤ x5 then ((aR_line.f k (⟨#[114, 101, 116, 117, 114, 110]⟩ : ByteArray) (([(rTP x328002 x5).f0, (rTP x328002 x5).f1] : List Int))).bind fun t338 => (if x4.size + t338.size ≤ 9223372036854775807 then (aR_WriteAnswer.l0 k (x4 ++ t338) (wrap64 (x5 + 1)) x328000 x328001 x328002) else (none))) else (none)) else ((aR_End.f k x4).bind fun t339 => (if x4.size + t339.size ≤ 9223372036854775807 then (some (x4 ++ t339, 0)) else (none)))
def aR_WriteAnswer.f (k : Nat) (a0_0 : Int) (a0_1 : Int) (l0_2 : List (S78)) : Option (ByteArray × Int) := (aR_Right.f k a0_0 a0_1 l0_2).bind fun t328 => (if t328 = true then ((aR_line.f k (⟨#[66, 65, 67, 75]⟩ : ByteArray) (([a0_0, a0_1, (l0_2.length : Int)] : List Int))).bind fun t332 => (aR_WriteAnswer.l0 k t332 0 a0_0 a0_1 l0_2)) else (some ((⟨#[]⟩ : ByteArray), 2)))
def aR_WriteAnswer.T7 : Bool × List (List Nat × List Nat) := (true, [([], []), ([], []), ([1], [1]), ([], []), ([2, 3], [2, 3]), ([4], [4]), ([5], [5]), ([], []), ([7], [7]), ([], []), ([8, 9], [8, 9]), ([10], [10]), ([11], [11]), ([6, 12], [6, 12]), ([13], [13]), ([0, 14], [0, 14]), ([15, 14, 0, 1, 2, 3, 4, 5, 6, 7, 8, 9, 10, 11, 12, 13, 14, 15], [0, 15])])
def aR_WriteAnswer.B7 : List Nat := [0, 0, 2, 0, 14, 30, 62, 0, 128, 0, 896, 1920, 3968, 8190, 16382, 32767, 65535]
theorem aR_WriteAnswer.tab7 : rtab .any (opsOf Tryz.f15 7) = aR_WriteAnswer.T7 := by kernel_rfl
theorem aR_WriteAnswer.bits7 : waitsOk aR_WriteAnswer.T7.2 aR_WriteAnswer.B7 = true := by kernel_rfl
set_option maxHeartbeats 8000000 in
set_option maxRecDepth 100000 in
theorem aR_WriteAnswer.calls (k : Nat) (a0_0 : Int) (a0_1 : Int) (A0_2 : Option Addr) (c0_2 : Nat) (l0_2 : List (S78)) (r1 : ByteArray) (r2 : Int) (w : World) (hr0_2 : Kd.C k78 w A0_2 l0_2.length l0_2) (hc0_2 : l0_2.length ≤ c0_2) (h : aR_WriteAnswer.f k a0_0 a0_1 l0_2 = some (r1, r2)) :
  Calls Tryz.prog 15 #[.agg #[.int .i64 a0_0, .int .i64 a0_1, .slice A0_2 l0_2.length c0_2]] w fun e w' => e = .returned (.tuple #[.string r1, .int .i64 r2]) ∧ Below w.heap.size w w' := by
 have hu41 := Tryz.underlying41; have HR0_2 := Zs.mk hr0_2; have HC0_2 := Zs.mk hc0_2; clear hr0_2 hc0_2; have HB := Zs.mk (Below.refl w.heap.size w); have H : ((aR_Right.f k a0_0 a0_1 l0_2).bind fun t328 => (if t328 = true then ((aR_line.f k (⟨#[66, 65, 67, 75]⟩ : ByteArray) (([a0_0, a0_1, (l0_2.length : Int)] : List Int))).bind fun t332 => (aR_WriteAnswer.l0 k t332 0 a0_0 a0_1 l0_2)) else (some ((⟨#[]⟩ : ByteArray), 2)))) = some (r1, r2) := h; clear h; obtain ⟨t328, A2, H⟩ := zb H; (try dsimp only [-Int.reduceToNat] at H)
 by_cases c3 : t328 = true
 ·
  subst c3
  rw [if_pos rfl] at H
  obtain ⟨y329, hy329⟩ : ∃ y_ : List Int, y_ = (([a0_0, a0_1, (l0_2.length : Int)] : List Int)) := ⟨_, rfl⟩
  replace H : ((aR_line.f k (⟨#[66, 65, 67, 75]⟩ : ByteArray) y329).bind fun t332 => (aR_WriteAnswer.l0 k t332 0 a0_0 a0_1 l0_2)) = some (r1, r2) := by first | (rw [hy329]; with_reducible exact H) | (have H2_ := (Option.bind_some _ _).symm.trans H; rw [hy329]; with_reducible exact H2_) | (have H2_ := (Option.bind_some _ _).symm.trans H; with_reducible exact H2_) | with_reducible exact H | (rw [hy329]; exact H) | exact H
  have Ny329 := Zs.mk hy329; clear hy329; obtain ⟨t332, A4, H⟩ := zb H; (try dsimp only [-Int.reduceToNat] at H); have H' := Zs.mk H; clear H
  go_enter Tryz.func15, Tryz.ntmps15
  go_wp2_with (first | ((with_reducible refine gkd (N := 1) rfl ?_); refine bxe ?hg (N := 1) ?hd (cs := #[.int .i64 a0_0, .int .i64 a0_1, .slice A0_2 l0_2.length c0_2]) (t := 41) ?hr ?_; (case hd => rfl); (case hg => rfl); (case hr => first | (go_simp; done) | (go_simp; rfl)); intro gb327 hg w5 hbox hb; have BK327 := Zs.mk (hbox); have GW327 := zG (w := w) hg; have GE327 := zG (w := w) hg; replace HB := zBs hb; clear hb hbox hg; obtain ⟨hcz6_0, hcz6_1, hcz6_2⟩ := zC3 BK327; obtain ⟨hfz6_0, hfz6_1, hfz6_2⟩ := zZ3 BK327) | ((with_reducible refine gkc (f := 38) rfl ?_); refine zgo (some 7) Tryz.func38 #[.agg #[.int .i64 a0_0, .int .i64 a0_1, .slice A0_2 l0_2.length c0_2]] ?_; (with_reducible refine (aR_Right.calls k a0_0 a0_1 _ _ l0_2 true _ ?side1 ?side2 A2.out).mono ?_); (case side1 => exact zQC HR0_2); (case side2 => exact HC0_2.out); rintro e w7 ⟨rfl, hb⟩; refine ⟨_, rfl, ?_⟩; replace BK327 := zKb BK327 hb; replace HB := zBs hb; obtain ⟨hcz8_0, hcz8_1, hcz8_2⟩ := zC3 BK327; obtain ⟨hfz8_0, hfz8_1, hfz8_2⟩ := zZ3 BK327) | ((with_reducible refine gkd (N := 16) rfl ?_); refine Kd.R_lit (Kd.int .i64) _ 3 ?hg (N := 16) ?hd (xs := ([a0_0, a0_1, (l0_2.length : Int)] : List Int)) (inner := [.int .i64 a0_0, .int .i64 a0_1, .int .i64 (l0_2.length : Int)]) (ok := fun _ => True) (okp := fun _ => True) ?hr ?hp (fun _ hk => hk) trivial (Below.refl _ _) (Nat.le_refl _) (by simp) ?_; (case hd => rfl); (case hg => rfl); (case hr => first | (go_simp; done) | (go_simp; rfl)); (case hp => exact (Reps.one (show Kd.M (Kd.int .i64) _ _ _ a0_0 [.int .i64 a0_0] from rfl) (Reps.one (show Kd.M (Kd.int .i64) _ _ _ a0_1 [.int .i64 a0_1] from rfl) (Reps.one (show Kd.M (Kd.int .i64) _ _ _ (l0_2.length : Int) [.int .i64 (l0_2.length : Int)] from rfl) (Reps.none _ _))))); intro v330 w9 ho10 hb hg_ hnew_; clear hg_ hnew_; (first | rw [← Ny329.out] at ho10 | (simp only [Int.reduceToNat] at ho10; rw [← Ny329.out] at ho10)); have HO331 := Zs.mk (Kd.R_lower ho10 (bsz zB)); replace BK327 := zKb BK327 hb; replace HB := zBs hb; clear hb ho10; obtain ⟨Ao11, co11, eo11⟩ := Kd.R_slice HO331.out; subst eo11) | ((with_reducible refine gkc (f := 36) rfl ?_); refine zgo (some 17) Tryz.func36 #[.string (⟨#[66, 65, 67, 75]⟩ : ByteArray), .slice Ao11 y329.length co11] ?_; (with_reducible refine (aR_line.calls k (⟨#[66, 65, 67, 75]⟩ : ByteArray) _ _ y329 t332 _ ?side1 ?side2 A4.out).mono ?_); (case side1 => exact zQ HO331); (case side2 => exact (Kd.R_reads' HO331.out).2.1); rintro e w12 ⟨rfl, hb⟩; refine ⟨_, rfl, ?_⟩; replace HO331 := zRb HO331 hb; replace BK327 := zKb BK327 hb; replace HB := zBs hb))
  go_loopg [4, 5] k (fun kq v4 v5 w' => ∃ (x4_1 : ByteArray) (x5_1 : Int), v4 = .string x4_1 ∧ v5 = .int .i64 x5_1 ∧ Zs (aR_WriteAnswer.l0 kq x4_1 x5_1 a0_0 a0_1 l0_2 = some (r1, r2)) ∧ Zs (kq ≤ k) ∧ Zs (w'.heap[gb327]? = some (.cells #[.int .i64 a0_0, .int .i64 a0_1, (.slice A0_2 l0_2.length c0_2)] 41 (0, 0))) ∧ Zs (Below w.heap.size w w'))
  case atStart => exact ⟨(t332), (0), zs, zs, H', ⟨Nat.le_refl _⟩, ⟨zK BK327⟩, ⟨zB⟩⟩
  case round =>
   clear H'
   obtain ⟨x4_1, x5_1, rfl, rfl, HA, HK1, BK327, HB⟩ := hrel
   cases gk with
   | zero => exact absurd HA.out (by simp [aR_WriteAnswer.l0])
   | succ k1 =>
    have H := HA.out; clear HA
    simp only [aR_WriteAnswer.l0] at H
    by_cases c13 : x5_1 < (l0_2.length : Int)
    ·
     rw [if_pos c13] at H
     have c13b0 := decide_eq_true c13; clear c13
     have c14 := zc H
     rw [if_pos c14] at H
     have c14b0 := decide_eq_true c14; clear c14
     obtain ⟨y335, hy335⟩ : ∃ y_ : List Int, y_ = (([(rTP l0_2 x5_1).f0, (rTP l0_2 x5_1).f1] : List Int)) := ⟨_, rfl⟩
     replace H : ((aR_line.f k1 (⟨#[114, 101, 116, 117, 114, 110]⟩ : ByteArray) y335).bind fun t338 => (if x4_1.size + t338.size ≤ 9223372036854775807 then (aR_WriteAnswer.l0 k1 (x4_1 ++ t338) (wrap64 (x5_1 + 1)) a0_0 a0_1 l0_2) else (none))) = some (r1, r2) := by first | (rw [hy335]; with_reducible exact H) | (have H2_ := (Option.bind_some _ _).symm.trans H; rw [hy335]; with_reducible exact H2_) | (have H2_ := (Option.bind_some _ _).symm.trans H; with_reducible exact H2_) | with_reducible exact H | (rw [hy335]; exact H) | exact H
     have Ny335 := Zs.mk hy335; clear hy335; obtain ⟨t338, A15, H⟩ := zb H; (try dsimp only [-Int.reduceToNat] at H)
     have c16 := zc H
     rw [if_pos c16] at H
     have c16b0 := eq_true c16; have c16b1 := decide_eq_true c16
     try have c16b2 : (9223372036854775807 < x4_1.size + t338.size) = False := eq_false (Nat.not_lt.2 c16)
     have H' := Zs.mk H; clear H; obtain ⟨hcz17_0, hcz17_1, hcz17_2⟩ := zC3 BK327; obtain ⟨hfz17_0, hfz17_1, hfz17_2⟩ := zZ3 BK327
     try go_wp2
     replace BK327 := Zs.mk (blk_drew BK327.out); replace HB := Zs.mk (below_drew1 HB.out); have p333 : 0 ≤ (x5_1 : Int) := zD; have q333 : x5_1 < (l0_2.length : Int) := zD; obtain ⟨ad333, e333, hx333_0, hx333_1⟩ := at_T78 HR0_2.out x5_1 p333 q333; have hw333_1 := hx333_1; have hw333_0 := hx333_0
     cases e333
     replace hx333_0 := zL HB hx333_0; replace hx333_1 := zL HB hx333_1; replace p333 := eq_true p333; replace q333 := eq_true q333; have p334 : 0 ≤ (x5_1 : Int) := zD; have q334 : x5_1 < (l0_2.length : Int) := zD; obtain ⟨ad334, e334, hx334_0, hx334_1⟩ := at_T78 HR0_2.out x5_1 p334 q334; have hw334_1 := hx334_1; have hw334_0 := hx334_0; obtain rfl : ad333 = ad334 := (by injection e334); replace hx334_0 := zL HB hx334_0; replace hx334_1 := zL HB hx334_1; replace p334 := eq_true p334; replace q334 := eq_true q334
     refine start_ (n := 17) (S := fun w' => w'.cell? ⟨gb327, 0, none⟩ = some (.int .i64 a0_0) ∧ w'.cell? ⟨gb327, 1, none⟩ = some (.int .i64 a0_1) ∧ w'.cell? ⟨gb327, 2, none⟩ = some (.slice (some ad333) l0_2.length c0_2) ∧ w'.cell? (ad333.add ((x5_1).toNat * 2)) = some (.int .i64 ((rTP l0_2 x5_1).f0)) ∧ w'.cell? ⟨(ad333.add ((x5_1).toNat * 2)).block, (ad333.add ((x5_1).toNat * 2)).off + 1, none⟩ = some (.int .i64 ((rTP l0_2 x5_1).f1)) ∧ w'.cell? (ad333.add ((x5_1).toNat * 2)) = some (.int .i64 ((rTP l0_2 x5_1).f0)) ∧ w'.cell? ⟨(ad333.add ((x5_1).toNat * 2)).block, (ad333.add ((x5_1).toNat * 2)).off + 1, none⟩ = some (.int .i64 ((rTP l0_2 x5_1).f1))) (ds := []) (zo 17) (by kernel_rfl) rfl rfl ⟨(bkc BK327.out 0).trans rfl, (bkc BK327.out 1).trans rfl, (bkc BK327.out 2).trans rfl, (zL HB hw333_0), (zL HB hw333_1), (zL HB hw334_0), (zL HB hw334_1)⟩ (fun hHeld => ?_); refine with_tabW aR_WriteAnswer.tab7 aR_WriteAnswer.bits7 (fun HT_ HW_ => ?_)
     generalize wr.drew = w18 at BK327 HB hx333_0 hx333_1 hx334_0 hx334_1 hHeld ⊢
     refine zp 0 25 (zm 17 1) ?_
     refine zp 1 26 (zm 17 3) ?_
     refine zp 3 28 (zm 17 11) ?_
     refine zp 7 32 (zm 17 139) ?_
     refine zp 9 34 (zm 17 651) ?_
     refine take_ (i := 2) (N := some 27) (v := ?_) (a' := ?_) (zm 17 655) rfl rfl (take_ofW HT_.out HW_.out (by kernel_rfl)) (fun _ _ _ h => h) (Or.inl ⟨by rfl, ?_⟩) hHeld ?_ ?_
     rotate_left
     ·
      rintro w' ⟨s0, s1, s2, s3, s4, s5, s6⟩
      go_simp
      with_reducible rfl
     rotate_left
     · simp only [Act.put, z1, z2, z3, i64_w, i32_w]; rfl
     refine zp 4 29 (zm 17 671) ?_
     refine zp 5 30 (zm 17 703) ?_
     refine take_ (i := 6) (N := some 31) (v := ?_) (a' := ?_) (zm 17 767) rfl rfl (take_ofW HT_.out HW_.out (by kernel_rfl)) (fun _ _ _ h => h) (Or.inl ⟨by rfl, ?_⟩) hHeld ?_ ?_
     rotate_left
     ·
      rintro w' ⟨s0, s1, s2, s3, s4, s5, s6⟩
      go_simp
      with_reducible rfl
     rotate_left
     · simp only [Act.put, z1, z2, z3, i64_w, i32_w]; rfl
     refine take_ (i := 8) (N := some 33) (v := ?_) (a' := ?_) (zm 17 1023) rfl rfl (take_ofW HT_.out HW_.out (by kernel_rfl)) (fun _ _ _ h => h) (Or.inl ⟨by rfl, ?_⟩) hHeld ?_ ?_
     rotate_left
     ·
      rintro w' ⟨s0, s1, s2, s3, s4, s5, s6⟩
      go_simp
      with_reducible rfl
     rotate_left
     · simp only [Act.put, z1, z2, z3, i64_w, i32_w]; rfl
     refine zp 10 35 (zm 17 2047) ?_
     refine zp 11 36 (zm 17 4095) ?_
     refine take_ (i := 12) (N := some 37) (v := ?_) (a' := ?_) (zm 17 8191) rfl rfl (take_ofW HT_.out HW_.out (by kernel_rfl)) (fun _ _ _ h => h) (Or.inl ⟨by rfl, ?_⟩) hHeld ?_ ?_
     rotate_left
     ·
      rintro w' ⟨s0, s1, s2, s3, s4, s5, s6⟩
      go_simp
      with_reducible rfl
     rotate_left
     · simp only [Act.put, z1, z2, z3, i64_w, i32_w]; rfl
     refine one_ (i := 13) (N := some 38) (zm 17 16383) rfl rfl (one_of HT_.out (by kernel_rfl)) (by decide) (fun K hK => ?_)
     refine Kd.R_lit_step (Kd.int .i64) _ 3 ?hg (N := 38) ?hd (xs := ([(rTP l0_2 x5_1).f0, (rTP l0_2 x5_1).f1] : List Int)) (inner := [.int .i64 ((rTP l0_2 x5_1).f0), .int .i64 ((rTP l0_2 x5_1).f1)]) (ok := fun _ => True) (okp := fun _ => True) ?hr ?hp (fun _ hk => hk) trivial (Below.refl _ _) (Nat.le_refl _) (by simp) ?_; (case hd => rfl); (case hg => rfl); (case hr => first | (go_simp; done) | (go_simp; rfl)); (case hp => exact (Reps.one (show Kd.M (Kd.int .i64) _ _ _ ((rTP l0_2 x5_1).f0) [.int .i64 ((rTP l0_2 x5_1).f0)] from rfl) (Reps.one (show Kd.M (Kd.int .i64) _ _ _ ((rTP l0_2 x5_1).f1) [.int .i64 ((rTP l0_2 x5_1).f1)] from rfl) (Reps.none _ _))))
     intro v336 w19 ho20 hb hg_ hnew_; clear hg_ hnew_
     (first | rw [← Ny335.out] at ho20 | (simp only [Int.reduceToNat] at ho20; rw [← Ny335.out] at ho20))
     have HO337 := Zs.mk (Kd.R_lower ho20 (bsz zB)); replace BK327 := zKb BK327 hb; replace HB := zBs hb; clear hb ho20; obtain ⟨Ao21, co21, eo21⟩ := Kd.R_slice HO337.out
     (first | subst eo21 | (injection eo21 with f1_ f2_ f3_; have f4_ := f1_.symm; have f5_ := f3_.symm; clear f1_ f2_ f3_; subst f4_; subst f5_))
     refine hK.out _ _ ⟨(bkc BK327.out 0).trans rfl, (bkc BK327.out 1).trans rfl, (bkc BK327.out 2).trans rfl, (zL HB hw333_0), (zL HB hw333_1), (zL HB hw334_0), (zL HB hw334_1)⟩ (fun hHeld => ?_)
     clear hK K
     refine norm_ (a' := ?_) ?_ ?_
     rotate_left
     ·
      show Act.put _ (some 38) _ = _
      simp only [Act.put, z1, z2, z3, i64_w, i32_w]
      rfl
     refine one_ (i := 14) (N := some 39) (zm 17 32767) rfl rfl (one_of HT_.out (by kernel_rfl)) (by decide) (fun K hK => ?_)
     refine goes_ Tryz.func36 (by kernel_rfl) rfl #[.string (⟨#[114, 101, 116, 117, 114, 110]⟩ : ByteArray), .slice Ao21 y335.length co21] (by rfl) rfl rfl (by (try simp only [List.map_toArray, List.map_cons, List.map_nil]); try rfl) ?_
     with_reducible refine (aR_line.calls k1 (⟨#[114, 101, 116, 117, 114, 110]⟩ : ByteArray) _ _ y335 t338 _ ?side1 ?side2 A15.out).mono ?_
     (case side1 => exact zQ HO337)
     (case side2 => exact (Kd.R_reads' HO337.out).2.1)
     rintro e w22 ⟨rfl, hb⟩
     refine ⟨_, rfl, ?_⟩
     replace HO337 := zRb HO337 hb; replace BK327 := zKb BK327 hb; replace HB := zBs hb
     refine hK.out _ _ ⟨(bkc BK327.out 0).trans rfl, (bkc BK327.out 1).trans rfl, (bkc BK327.out 2).trans rfl, (zL HB hw333_0), (zL HB hw333_1), (zL HB hw334_0), (zL HB hw334_1)⟩ (fun hHeld => ?_)
     clear hK K
     refine norm_ (a' := ?_) ?_ ?_
     rotate_left
     ·
      show Act.put _ (some 39) _ = _
      simp only [Act.put, z1, z2, z3, i64_w, i32_w]
      rfl
     refine zp 15 40 (zm 17 65535) ?_
     refine zp 16 4 (zm 17 131071) ?_
     refine done_ (done_of HT_.out (by kernel_rfl)) ?_
     try go_wp2
     go_roundg k1
     case measure => have := HK1.out; omega
     case rel => exact ⟨(x4_1 ++ t338), (wrap64 (x5_1 + 1)), zs, zs, H', ⟨by have := HK1.out; omega⟩, ⟨zK BK327⟩, ⟨zB⟩⟩
    ·
     rw [if_neg c13] at H
     have c13b0 := decide_eq_false c13; clear c13; obtain ⟨t339, A23, H⟩ := zb H; (try dsimp only [-Int.reduceToNat] at H)
     have c24 := zc H
     rw [if_pos c24] at H
     have c24b0 := eq_true c24; have c24b1 := decide_eq_true c24
     try have c24b2 : (9223372036854775807 < x4_1.size + t339.size) = False := eq_false (Nat.not_lt.2 c24)
     simp only [Option.some.injEq, Prod.mk.injEq] at H
     obtain ⟨rfl, rfl⟩ := H; obtain ⟨hcz25_0, hcz25_1, hcz25_2⟩ := zC3 BK327; obtain ⟨hfz25_0, hfz25_1, hfz25_2⟩ := zZ3 BK327
     go_wp2_with (first | ((with_reducible refine gkc (f := 11) rfl ?_); refine zgo (some 43) Tryz.func11 #[.string x4_1] ?_; (with_reducible refine (aR_End.calls k1 x4_1 t339 _ A23.out).mono ?_); rintro e w' ⟨rfl, ⟨nd, rfl⟩⟩; refine ⟨_, rfl, ?_⟩))
     go_ret2
     exact ⟨zE, zB⟩
 ·
  replace c3 := Bool.eq_false_iff.mpr c3; subst c3
  rw [if_neg (show ¬ (false = true) by decide)] at H
  simp only [Option.some.injEq, Prod.mk.injEq] at H
  obtain ⟨rfl, rfl⟩ := H
  go_enter Tryz.func15, Tryz.ntmps15
  go_wp2_with (first | ((with_reducible refine gkd (N := 1) rfl ?_); refine bxe ?hg (N := 1) ?hd (cs := #[.int .i64 a0_0, .int .i64 a0_1, .slice A0_2 l0_2.length c0_2]) (t := 41) ?hr ?_; (case hd => rfl); (case hg => rfl); (case hr => first | (go_simp; done) | (go_simp; rfl)); intro gb327 hg w26 hbox hb; have BK327 := Zs.mk (hbox); have GW327 := zG (w := w) hg; have GE327 := zG (w := w) hg; replace HB := zBs hb; clear hb hbox hg; obtain ⟨hcz27_0, hcz27_1, hcz27_2⟩ := zC3 BK327; obtain ⟨hfz27_0, hfz27_1, hfz27_2⟩ := zZ3 BK327) | ((with_reducible refine gkc (f := 38) rfl ?_); refine zgo (some 7) Tryz.func38 #[.agg #[.int .i64 a0_0, .int .i64 a0_1, .slice A0_2 l0_2.length c0_2]] ?_; (with_reducible refine (aR_Right.calls k a0_0 a0_1 _ _ l0_2 false _ ?side1 ?side2 A2.out).mono ?_); (case side1 => exact zQC HR0_2); (case side2 => exact HC0_2.out); rintro e w28 ⟨rfl, hb⟩; refine ⟨_, rfl, ?_⟩; replace BK327 := zKb BK327 hb; replace HB := zBs hb))
  go_ret2
  exact ⟨zE, zB⟩
end
end Go.Proofs.YtndojpcjhkncgaaGreatDoor.Q
end
section
namespace Go.Proofs.YtndojpcjhkncgaaGreatDoor.Q
open Go.RowKit Go.Proofs.YtndojpcjhkncgaaGreatDoorW.PrintWords
section
def B (l : List UInt8) : ByteArray := ⟨l.toArray⟩
theorem B_size (l : List UInt8) : (B l).size = l.length := by show l.toArray.size = _; simp
theorem B_cat (a b : List UInt8) : B a ++ B b = B (a ++ b) := by
  apply ByteArray.ext
  rw [ByteArray.data_append]
  simp [B]
theorem B_nums (xs : List Int) : strOfNums xs = B (xs.map fun n => UInt8.ofNat n.toNat) := rfl
theorem B_list (l : List UInt8) : (B l).toList = l := by rw [ByteArray.toList_eq]; simp [B] 
theorem B_bt (l : List UInt8) (i : Nat) (h : i < l.length) : bt (B l) (i : Int) = (l[i].toNat : Int) := by
  unfold bt
  rw [dif_pos (by rw [B_size]; simpa using h)]
  rfl
theorem itoa_len (n : Int) (h0 : -4611686018427387904 ≤ n) (h1 : n ≤ 4611686018427387904) : (Lib.itoa n).length ≤ 21 := Lib.itoa_length_le n (by omega) (by omega)
theorem dec_small (u : Nat) (h : u < 10) : Lib.decDigits u = [UInt8.ofNat (48 + u)] := by rw [Lib.decDigits, dif_pos h]
theorem dec_big (u : Nat) (h : ¬ u < 10) : Lib.decDigits u = Lib.decDigits (u / 10) ++ [UInt8.ofNat (48 + u % 10)] := by rw [Lib.decDigits, dif_neg h]
theorem dec_len (u : Nat) (h : u ≤ 4611686018427387904) : (Lib.decDigits u).length ≤ 21 := by
  have := itoa_len (u : Int) (by omega) (by omega)
  rwa [Lib.itoa_nonneg] at this
theorem decimal_l0 (u : Nat) : ∀ (s : List UInt8), u ≤ 4611686018427387904 → s.length + u ≤ 4611686018427387914 → Ev (fun k => aR_decimal.l0 k (u : Int) (B s)) (B (if u < 10 then s else Lib.decDigits (u / 10) ++ s)) := by
  induction u using Nat.strongRecOn with
  | _ u ih =>
    intro s hu hs
    refine Ev.step (fun k => by rw [aR_decimal.l0]) ?_
    by_cases h : u < 10
    · exact Ev.neg (by omega) (Ev.ret (by rw [if_pos h]))
    · refine Ev.pos (by omega) (Ev.const rfl ?_)
      have e1 : wrap64 (Int.tdiv (u : Int) 10) = ((u / 10 : Nat) : Int) := by
        rw [show Int.tdiv (u : Int) 10 = ((u / 10 : Nat) : Int) from rfl]
        exact w64 (by omega) (by omega)
      have e2 : strOfNums [(wrap64 (48 + (Int.tmod (wrap64 (Int.tdiv (u : Int) 10)) 10))) % 256] = B [UInt8.ofNat (48 + u / 10 % 10)] := by
        rw [e1, show Int.tmod ((u / 10 : Nat) : Int) 10 = ((u / 10 % 10 : Nat) : Int) from rfl, w64 (by omega) (by omega), B_nums]
        simp only [List.map_cons, List.map_nil]
        rw [show ((48 + ((u / 10 % 10 : Nat) : Int)) % 256).toNat = 48 + u / 10 % 10 by omega]
      rw [e1] at e2
      rw [e1, e2, B_cat]
      refine Ev.pos (by rw [B_size, B_size]; simp; omega) ?_
      have := ih (u / 10) (by omega) ([UInt8.ofNat (48 + u / 10 % 10)] ++ s) (by omega) (by simp; omega)
      refine Ev.eq this ?_
      rw [if_neg h]
      by_cases h2 : u / 10 < 10
      · rw [if_pos h2, dec_small _ h2, Nat.mod_eq_of_lt h2]
      · rw [if_neg h2, dec_big (u / 10) h2, List.append_assoc]
theorem decimal_nat (u : Nat) (hu : u ≤ 4611686018427387904) : Ev (fun k => aR_decimal.f k (u : Int)) (B (Lib.itoa u)) := by
  refine Ev.step (fun k => by rw [aR_decimal.f]) (Ev.neg (by omega) ?_)
  have e2 : strOfNums [(wrap64 (48 + (Int.tmod (u : Int) 10))) % 256] = B [UInt8.ofNat (48 + u % 10)] := by
    rw [show Int.tmod (u : Int) 10 = ((u % 10 : Nat) : Int) from rfl, w64 (by omega) (by omega), B_nums]
    simp only [List.map_cons, List.map_nil]
    rw [show ((48 + ((u % 10 : Nat) : Int)) % 256).toNat = 48 + u % 10 by omega]
  rw [e2]
  refine Ev.eq (decimal_l0 u [UInt8.ofNat (48 + u % 10)] hu (by simp; omega)) ?_
  rw [Lib.itoa_nonneg]
  by_cases h : u < 10
  · rw [if_pos h, dec_small _ h, Nat.mod_eq_of_lt h]
  · rw [if_neg h, ← dec_big u h]
theorem decimal_ev (n : Int) (h0 : -4611686018427387904 ≤ n) (h1 : n ≤ 4611686018427387904) : Ev (fun k => aR_decimal.f k n) (B (Lib.itoa n)) := by
  by_cases h : n < 0
  · obtain ⟨u, rfl⟩ : ∃ u : Nat, n = -(u : Int) := ⟨n.natAbs, by omega⟩
    refine Ev.step (fun k => by rw [aR_decimal.f]) (Ev.pos h ?_)
    rw [show wrap64 (-(-(u : Int))) = (u : Int) by rw [Int.neg_neg]; exact w64 (by omega) (by omega)]
    refine Ev.bind (decimal_nat u (by omega)) ?_
    have hl := dec_len u (by omega)
    rw [Lib.itoa_nonneg, Lib.itoa_neg u (by omega)]
    refine Ev.pos (by rw [B_size]; omega) (Ev.ret ?_)
    exact B_cat [45] _
  · obtain ⟨u, rfl⟩ : ∃ u : Nat, n = (u : Int) := ⟨n.toNat, by omega⟩
    exact decimal_nat u (by omega)
def okI (n : Int) : Prop := -4611686018427387904 ≤ n ∧ n ≤ 4611686018427387904
theorem numsL_cons (n : Int) (l : List Int) : numsL (n :: l) = [32] ++ Lib.itoa n ++ numsL l := by simp [numsL]
theorem numsL_len : ∀ (l : List Int), (∀ n ∈ l, okI n) → (numsL l).length ≤ 22 * l.length
  | [], _ => by simp [numsL]
  | n :: l, h => by
    have h1 := numsL_len l (fun m hm => h m (List.mem_cons_of_mem _ hm))
    have h2 := itoa_len n (h n (List.mem_cons_self)).1 (h n (List.mem_cons_self)).2
    rw [numsL_cons]
    simp only [List.length_append, List.length_cons, List.length_nil]
    omega
theorem rdI (L : List Int) (i : Nat) (h : i < L.length) : rd L (i : Int) = L[i] := by unfold rd; simp [h]
theorem line_l0 (ns : List Int) (hn : ∀ n ∈ ns, okI n) (hL : ns.length ≤ 1000) (d : Nat) : ∀ (i : Nat) (s : List UInt8), i + d = ns.length → s.length + 22 * d ≤ 140737488355328 → Ev (fun k => aR_line.l0 k (B s) ns (i : Int)) (B (s ++ numsL (ns.drop i) ++ [10])) := by
  induction d with
  | zero =>
    intro i s hi hs
    rw [List.drop_eq_nil_of_le (by omega)]
    refine Ev.step (fun k => by rw [aR_line.l0]) (Ev.neg (by omega) (Ev.pos (by rw [B_size]; omega) (Ev.ret ?_)))
    rw [show (⟨#[10]⟩ : ByteArray) = B [10] from rfl, B_cat]
    simp [numsL]
  | succ d ih =>
    intro i s hi hs
    have hlt : i < ns.length := by omega
    have hm := hn ns[i] (List.getElem_mem hlt)
    have hl := itoa_len ns[i] hm.1 hm.2
    rw [drop_get ns i hlt, numsL_cons]
    refine Ev.step (fun k => by rw [aR_line.l0]) (Ev.pos (by omega) (Ev.pos (by rw [B_size]; omega) (Ev.pos (by omega) ?_)))
    rw [rdI ns i hlt]
    refine Ev.bind (decimal_ev ns[i] hm.1 hm.2) (Ev.pos (by rw [B_size, B_size]; omega) ?_)
    rw [show (⟨#[32]⟩ : ByteArray) = B [32] from rfl, B_cat, B_cat, w64 (by omega) (by omega)]
    refine Ev.eq (ih (i + 1) (s ++ [32] ++ Lib.itoa ns[i]) (by omega) (by simp; omega)) ?_
    simp [List.append_assoc]
theorem line_ev (word : List UInt8) (ns : List Int) (hn : ∀ n ∈ ns, okI n) (hL : ns.length ≤ 1000) (hw : word.length ≤ 1000) : Ev (fun k => aR_line.f k (B word) ns) (B (lineL word ns)) := by
  unfold aR_line.f
  exact Ev.eq (line_l0 ns hn hL ns.length 0 word (by omega) (by omega)) (by simp [lineL])
theorem lineL_len (word : List UInt8) (ns : List Int) (hn : ∀ n ∈ ns, okI n) : (lineL word ns).length ≤ word.length + 22 * ns.length + 1 := by
  have := numsL_len ns hn
  unfold lineL
  simp only [List.length_append, List.length_cons, List.length_nil]
  omega
def hexR : Nat → Nat → List UInt8
  | 0, _ => []
  | j + 1, n => hexR j (n / 16) ++ [dig (n % 16)]
theorem hexR_zero : ∀ j, hexR j 0 = List.replicate j 48
  | 0 => rfl
  | j + 1 => by rw [hexR, Nat.zero_div, hexR_zero j, List.replicate_succ']; rfl
theorem hexR_eq : ∀ (j n : Nat), n < 16 ^ (j + 1) → hexR (j + 1) n = List.replicate (j + 1 - (hexL n).length) 48 ++ hexL n := by
  intro j
  induction j with
  | zero => intro n hn; rw [hexL_small n (by simpa using hn)]; simp [hexR]; rw [Nat.mod_eq_of_lt (by simpa using hn)]
  | succ j ih =>
    intro n hn
    rw [hexR]
    by_cases h : n < 16
    · rw [Nat.div_eq_of_lt h, hexR_zero, hexL_small n h, Nat.mod_eq_of_lt h]; simp
    · rw [ih (n / 16) (by rw [Nat.div_lt_iff_lt_mul (by omega), ← Nat.pow_succ]; exact hn), hexL_big n (by omega)]
      simp [List.append_assoc]
theorem hexR_8 (n : Nat) (h : n < 4294967296) : hexR 8 n = hex8 n := hexR_eq 7 n (by omega)
theorem hexR_len : ∀ j n, (hexR j n).length = j
  | 0, _ => rfl
  | j + 1, n => by rw [hexR, List.length_append, hexR_len j]; rfl
theorem hex8_len (n : Nat) (h : n < 4294967296) : (hex8 n).length = 8 := by rw [← hexR_8 n h, hexR_len]
theorem cut_dig (n : Nat) (h : n < 16) : (⟨#[48, 49, 50, 51, 52, 53, 54, 55, 56, 57, 97, 98, 99, 100, 101, 102]⟩ : ByteArray).extract n (n + 1) = B [dig n] := by
  match n, h with
  | 0, _ => rfl
  | 1, _ => rfl
  | 2, _ => rfl
  | 3, _ => rfl
  | 4, _ => rfl
  | 5, _ => rfl
  | 6, _ => rfl
  | 7, _ => rfl
  | 8, _ => rfl
  | 9, _ => rfl
  | 10, _ => rfl
  | 11, _ => rfl
  | 12, _ => rfl
  | 13, _ => rfl
  | 14, _ => rfl
  | 15, _ => rfl
  | n + 16, h => omega
theorem hex_l0 (d : Nat) : ∀ (i n : Nat) (s : List UInt8), i + d = 8 → n < 4294967296 → s.length = i → Ev (fun k => aR_hex.l0 k (n : Int) (B s) (i : Int)) (B (hexR d n ++ s)) := by
  induction d with
  | zero =>
    intro i n s hi hn hs
    exact Ev.step (fun k => by rw [aR_hex.l0]) (Ev.neg (by omega) (Ev.ret (by simp [hexR])))
  | succ d ih =>
    intro i n s hi hn hs
    refine Ev.step (fun k => by rw [aR_hex.l0]) (Ev.pos (by omega) ?_)
    rw [show Int.tmod (n : Int) 16 = ((n % 16 : Nat) : Int) from rfl, show Int.tdiv (n : Int) 16 = ((n / 16 : Nat) : Int) from rfl, w64 (n := ((n % 16 : Nat) : Int) + 1) (by omega) (by omega), w64 (n := ((n / 16 : Nat) : Int)) (by omega) (by omega), w64 (n := (i : Int) + 1) (by omega) (by omega)]
    rw [show (((n % 16 : Nat) : Int)).toNat = n % 16 from rfl, show (((n % 16 : Nat) : Int) + 1).toNat = n % 16 + 1 from rfl, cut_dig (n % 16) (by omega), B_cat]
    refine Ev.pos (by omega) (Ev.pos (by omega) (Ev.pos (by omega) (Ev.pos (by rw [B_size, B_size]; simp; omega) ?_)))
    refine Ev.eq (ih (i + 1) (n / 16) ([dig (n % 16)] ++ s) (by omega) (by omega) (by simp; omega)) ?_
    rw [hexR, List.append_assoc]
theorem hex_ev (n : Nat) (hn : n < 4294967296) : Ev (fun k => aR_hex.f k (n : Int)) (B (hex8 n)) := by
  unfold aR_hex.f
  refine Ev.eq (hex_l0 8 0 n [] rfl hn rfl) ?_
  rw [hexR_8 n hn, List.append_nil]
def sums : Nat → Nat → Nat → List UInt8 → Nat × Nat
  | _, a, w, [] => (a, w)
  | i, a, w, c :: l => sums (i + 1) ((a + c.toNat) % 4294967296) ((w + (i + 1) * c.toNat) % 4294967296) l
theorem sums_lt : ∀ (l : List UInt8) (i a w : Nat), a < 4294967296 → w < 4294967296 → (sums i a w l).1 < 4294967296 ∧ (sums i a w l).2 < 4294967296
  | [], _, _, _, h, h' => ⟨h, h'⟩
  | c :: l, i, a, w, h, h' => sums_lt l (i + 1) _ _ (Nat.mod_lt _ (by omega)) (Nat.mod_lt _ (by omega))
def endL (l : List UInt8) : List UInt8 := [69, 78, 68, 32] ++ hex8 (sums 0 0 0 l).1 ++ [32] ++ hex8 (sums 0 0 0 l).2 ++ [10]
theorem endL_len (l : List UInt8) : (endL l).length = 22 := by
  have h := sums_lt l 0 0 0 (by omega) (by omega)
  unfold endL
  simp only [List.length_append, List.length_cons, List.length_nil]
  rw [hex8_len _ h.1, hex8_len _ h.2]
theorem end_text (a w : Nat) (ha : a < 4294967296) (hw : w < 4294967296) {f : Nat → Option ByteArray} {g : Nat → Option ByteArray} (hf : Ev f (B (hex8 a))) (hg : Ev g (B (hex8 w))) :
    Ev (fun k => (f k).bind fun t210 => (if 4 + t210.size ≤ 9223372036854775807 then (if 4 + t210.size + 1 ≤ 9223372036854775807 then ((g k).bind fun t211 => (if 4 + t210.size + 1 + t211.size ≤ 9223372036854775807 then (if 4 + t210.size + 1 + t211.size + 1 ≤ 9223372036854775807 then (some (((((⟨#[69, 78, 68, 32]⟩ : ByteArray) ++ t210) ++ (⟨#[32]⟩ : ByteArray)) ++ t211) ++ (⟨#[10]⟩ : ByteArray))) else (none)) else (none))) else (none)) else (none)))
      (B ([69, 78, 68, 32] ++ hex8 a ++ [32] ++ hex8 w ++ [10])) := by
  have h1 := hex8_len a ha
  have h2 := hex8_len w hw
  refine Ev.bind hf (Ev.pos (by rw [B_size]; omega) (Ev.pos (by rw [B_size]; omega) (Ev.bind hg (Ev.pos (by rw [B_size, B_size]; omega) (Ev.pos (by rw [B_size, B_size]; omega) (Ev.ret ?_))))))
  rw [show (⟨#[69, 78, 68, 32]⟩ : ByteArray) = B [69, 78, 68, 32] from rfl, show (⟨#[32]⟩ : ByteArray) = B [32] from rfl, show (⟨#[10]⟩ : ByteArray) = B [10] from rfl, B_cat, B_cat, B_cat, B_cat]
theorem refEnd_l0 (L : List UInt8) (hL : L.length ≤ 4398046511104) (d : Nat) : ∀ (i a w : Nat), i + d = L.length → a < 4294967296 → w < 4294967296 →
    Ev (fun k => aR_End.l0 k (B L) (a : Int) (w : Int) (i : Int)) (B ([69, 78, 68, 32] ++ hex8 (sums i a w (L.drop i)).1 ++ [32] ++ hex8 (sums i a w (L.drop i)).2 ++ [10])) := by
  induction d with
  | zero =>
    intro i a w hi ha hw
    rw [List.drop_eq_nil_of_le (by omega)]
    exact Ev.step (fun k => by rw [aR_End.l0]) (Ev.neg (by rw [B_size]; omega) (end_text a w ha hw (hex_ev a ha) (hex_ev w hw)))
  | succ d ih =>
    intro i a w hi ha hw
    have hlt : i < L.length := by omega
    rw [drop_get L i hlt]
    refine Ev.step (fun k => by rw [aR_End.l0]) (Ev.pos (by rw [B_size]; omega) (Ev.pos (by omega) ?_))
    obtain ⟨c, hc⟩ : ∃ c, L[i] = c := ⟨_, rfl⟩
    rw [B_bt L i hlt, hc]
    have hb := c.toNat_lt
    have hm : (i + 1) * c.toNat ≤ 4398046511104 * 256 := Nat.mul_le_mul (by omega) (by omega)
    rw [w64 (n := (c.toNat : Int)) (by omega) (by omega), w64 (n := (i : Int) + 1) (by omega) (by omega)]
    rw [show ((i : Int) + 1) * (c.toNat : Int) = (((i + 1) * c.toNat : Nat) : Int) by rw [Int.natCast_mul, Int.natCast_add]; rfl]
    rw [w64 (n := (((i + 1) * c.toNat : Nat) : Int)) (by omega) (by omega), ← Int.natCast_add, ← Int.natCast_add, w64 (n := ((a + c.toNat : Nat) : Int)) (by omega) (by omega), w64 (n := ((w + (i + 1) * c.toNat : Nat) : Int)) (by omega) (by omega)]
    exact ih (i + 1) ((a + c.toNat) % 4294967296) ((w + (i + 1) * c.toNat) % 4294967296) (by omega) (Nat.mod_lt _ (by omega)) (Nat.mod_lt _ (by omega))
theorem refEnd_ev (L : List UInt8) (hL : L.length ≤ 4398046511104) : Ev (fun k => aR_End.f k (B L)) (B (endL L)) := by
  unfold aR_End.f
  exact refEnd_l0 L hL L.length 0 0 0 (by omega) (by omega) (by omega)
theorem bankhex_ev (n : Nat) (hn : n < 4294967296) : Ev (fun _ => bank_hex.f (n : Int)) (B (hex8 n)) := Ev.fix (by unfold bank_hex.f; rw [if_pos (by omega)]; rfl)
theorem bankEnd_l0 (L : List UInt8) (hL : L.length ≤ 4398046511104) (d : Nat) : ∀ (i a w : Nat), i + d = L.length → a < 4294967296 → w < 4294967296 →
    Ev (fun k => bank_end.l0 k (B L) (a : Int) (w : Int) (L.length : Int) (i : Int)) (B ([69, 78, 68, 32] ++ hex8 (sums i a w (L.drop i)).1 ++ [32] ++ hex8 (sums i a w (L.drop i)).2 ++ [10])) := by
  induction d with
  | zero =>
    intro i a w hi ha hw
    rw [List.drop_eq_nil_of_le (by omega)]
    exact Ev.step (fun k => by rw [bank_end.l0]) (Ev.neg (by omega) (end_text a w ha hw (bankhex_ev a ha) (bankhex_ev w hw)))
  | succ d ih =>
    intro i a w hi ha hw
    have hlt : i < L.length := by omega
    rw [drop_get L i hlt]
    refine Ev.step (fun k => by rw [bank_end.l0]) (Ev.pos (by omega) (Ev.pos (by omega) (Ev.pos (by rw [B_size]; omega) ?_)))
    obtain ⟨c, hc⟩ : ∃ c, L[i] = c := ⟨_, rfl⟩
    rw [B_bt L i hlt, hc]
    have hb := c.toNat_lt
    rw [w64 (n := (i : Int) + 1) (by omega) (by omega)]
    have e1 : (((a : Int) + ((c.toNat : Int) % 4294967296)) % 4294967296) = (((a + c.toNat) % 4294967296 : Nat) : Int) := by omega
    have e2 : (((w : Int) + (((((i : Int) + 1) % 4294967296) * ((c.toNat : Int) % 4294967296)) % 4294967296)) % 4294967296) = (((w + (i + 1) * c.toNat) % 4294967296 : Nat) : Int) := by
      rw [← Int.mul_emod, show ((i : Int) + 1) * (c.toNat : Int) = (((i + 1) * c.toNat : Nat) : Int) by rw [Int.natCast_mul, Int.natCast_add]; rfl]
      omega
    rw [e1, e2]
    exact ih (i + 1) ((a + c.toNat) % 4294967296) ((w + (i + 1) * c.toNat) % 4294967296) (by omega) (Nat.mod_lt _ (by omega)) (Nat.mod_lt _ (by omega))
theorem bankEnd_ev (L : List UInt8) (hL : L.length ≤ 4398046511104) : Ev (fun k => bank_end.f k (B L)) (B (endL L)) := by
  unfold bank_end.f
  rw [B_size]
  exact bankEnd_l0 L hL L.length 0 0 0 (by omega) (by omega) (by omega)
theorem closed_ev (L : List UInt8) (hL : L.length ≤ 4398046511104) : Ev (fun k => closedL k L) (B (L ++ endL L)) := by
  unfold closedL
  refine Ev.pos (by omega) (Ev.bind (bankEnd_ev L hL) (Ev.pos (by rw [B_size, endL_len]; omega) (Ev.ret ?_)))
  exact B_cat L (endL L)
end
end Go.Proofs.YtndojpcjhkncgaaGreatDoor.Q
end
section
namespace Go.Proofs.YtndojpcjhkncgaaGreatDoor.Q
open Go
section
theorem parse_append : ∀ (l r : List UInt8) (acc v : Nat), Lib.parseUint10 acc l = .ok v → Lib.parseUint10 acc (l ++ r) = Lib.parseUint10 v r
  | [], r, acc, v, h => by
    simp only [Lib.parseUint10] at h
    injection h with h
    rw [h, List.nil_append]
  | c :: l, r, acc, v, h => by
    simp only [Lib.parseUint10] at h
    split at h
    · rename_i h1
      split at h
      · cases h
      · rename_i h2
        split at h
        · cases h
        · rename_i h3
          rw [List.cons_append, Lib.parseUint10, if_pos h1, if_neg h2, if_neg h3]
          exact parse_append l r _ v h
    · cases h
theorem digit_nat (d : Nat) (h : d < 10) : (UInt8.ofNat (48 + d)).toNat = 48 + d := by
  rw [UInt8.toNat_ofNat']
  omega
theorem parse_dec (u : Nat) : u ≤ 1099511627776 → Lib.parseUint10 0 (Lib.decDigits u) = .ok u := by
  induction u using Nat.strongRecOn with
  | ind u ih =>
    intro hu
    have one : ∀ (acc d : Nat), d < 10 → acc ≤ 1099511627776 → Lib.parseUint10 acc [UInt8.ofNat (48 + d)] = .ok (acc * 10 + d) := by
      intro acc d hd ha
      rw [Lib.parseUint10, digit_nat d hd, if_pos (by omega), if_neg (by omega), if_neg (by omega), Lib.parseUint10]
      congr 1
      omega
    by_cases h : u < 10
    · rw [dec_small u h, one 0 u h (by omega)]
      congr 1
      omega
    · rw [dec_big u h, parse_append _ _ 0 (u / 10) (ih (u / 10) (by omega) (by omega)), one _ _ (by omega) (by omega)]
      congr 1
      omega
theorem dec_head (u : Nat) : ∃ c r, Lib.decDigits u = c :: r ∧ 48 ≤ c.toNat ∧ c.toNat ≤ 57 := by
  induction u using Nat.strongRecOn with
  | ind u ih =>
    by_cases h : u < 10
    · exact ⟨_, [], dec_small u h, by rw [digit_nat u h]; omega, by rw [digit_nat u h]; omega⟩
    · obtain ⟨c, r, h1, h2, h3⟩ := ih (u / 10) (by omega)
      exact ⟨c, r ++ [UInt8.ofNat (48 + u % 10)], by rw [dec_big u h, h1]; rfl, h2, h3⟩
theorem dec_all (u : Nat) : ∀ c ∈ Lib.decDigits u, 48 ≤ c.toNat ∧ c.toNat ≤ 57 := by
  induction u using Nat.strongRecOn with
  | ind u ih =>
    intro c hc
    by_cases h : u < 10
    · rw [dec_small u h, List.mem_singleton] at hc
      rw [hc, digit_nat u h]
      omega
    · rw [dec_big u h] at hc
      rcases List.mem_append.mp hc with hc | hc
      · exact ih _ (by omega) c hc
      · rw [List.mem_singleton.mp hc, digit_nat _ (by omega)]
        omega
theorem itoa_all (n : Int) : ∀ c ∈ Lib.itoa n, c = 45 ∨ (48 ≤ c.toNat ∧ c.toNat ≤ 57) := by
  intro c hc
  unfold Lib.itoa at hc
  split at hc
  · rcases List.mem_cons.mp hc with rfl | hc
    · exact .inl rfl
    · exact .inr (dec_all _ c hc)
  · exact .inr (dec_all _ c hc)
theorem numIn_iff (v : Int) : numIn v = true ↔ -1099511627776 ≤ v ∧ v ≤ 1099511627776 := by simp [numIn]
theorem atoi_itoa (v : Int) (h : numIn v = true) : Lib.atoiAll (Lib.itoa v) = .ok v := by
  obtain ⟨h1, h2⟩ := (numIn_iff v).mp h
  have hmag : ∀ u : Nat, u ≤ 1099511627776 → Lib.parseMag (Lib.decDigits u) = .ok u := by
    intro u hu
    obtain ⟨c, r, hc, _⟩ := dec_head u
    rw [Lib.parseMag, if_neg (by rw [hc]; simp), parse_dec u hu]
  by_cases hv : v < 0
  · obtain ⟨u, rfl⟩ : ∃ u : Nat, v = -(u : Int) := ⟨v.natAbs, by omega⟩
    rw [show Lib.itoa (-(u : Int)) = 45 :: Lib.decDigits u by unfold Lib.itoa; rw [if_pos hv]; simp, Lib.atoiAll_minus, hmag u (by omega)]
    show (if 9223372036854775808 < u then Lib.NumEnd.range else .ok (-(u : Int))) = _
    rw [if_neg (by omega)]
  · obtain ⟨u, rfl⟩ : ∃ u : Nat, v = (u : Int) := ⟨v.natAbs, by omega⟩
    rw [show Lib.itoa (u : Int) = Lib.decDigits u by unfold Lib.itoa; rw [if_neg hv]; simp]
    obtain ⟨c, r, hc, h3, h4⟩ := dec_head u
    have hm := hmag u (by omega)
    rw [hc] at hm ⊢
    rw [Lib.atoiAll_plain c r (by omega) (by omega), hm]
    show (if 9223372036854775808 ≤ u then Lib.NumEnd.range else .ok (u : Int)) = _
    rw [if_neg (by omega)]
theorem numF_itoa (v : Int) (h : numIn v = true) : numF (Lib.itoa v) = (v, true) := by
  unfold numF
  rw [atoi_itoa v h]
  simp [h]
theorem numF_true (w : List UInt8) (h : (numF w).2 = true) : numIn (numF w).1 = true ∧ Lib.itoa (numF w).1 = w := by
  unfold numF at h ⊢
  split at h <;> simp_all
theorem numsOf_iff : ∀ (ws : List (List UInt8)) (ns : List Int), numsOf ws = some ns ↔ ws = ns.map Lib.itoa ∧ ∀ n ∈ ns, numIn n = true
  | [], ns => by
    constructor
    · intro h
      cases h
      exact ⟨rfl, fun n h => by cases h⟩
    · rintro ⟨h, _⟩
      cases ns with
      | nil => rfl
      | cons _ _ => cases h
  | w :: ws, ns => by
    constructor
    · intro h
      unfold numsOf at h
      split at h
      · rename_i hw
        obtain ⟨ms, h1, rfl⟩ := Option.map_eq_some_iff.mp h
        obtain ⟨h2, h3⟩ := (numsOf_iff ws ms).mp h1
        obtain ⟨h4, h5⟩ := numF_true w hw
        refine ⟨by rw [List.map_cons, h5, ← h2], fun n hn => ?_⟩
        rcases List.mem_cons.mp hn with rfl | hn
        · exact h4
        · exact h3 n hn
      · cases h
    · rintro ⟨h, hn⟩
      cases ns with
      | nil => cases h
      | cons n ns =>
        rw [List.map_cons] at h
        injection h with h1 h2
        have hf := numF_itoa n (hn n List.mem_cons_self)
        unfold numsOf
        rw [h1, hf, if_pos rfl, (numsOf_iff ws ns).mpr ⟨h2, fun m hm => hn m (List.mem_cons_of_mem _ hm)⟩]
        rfl
theorem words_join (c : UInt8) : ∀ (l w : List UInt8) (ws : List (List UInt8)), wordsL c l = w :: ws → l = w ++ ws.flatMap (fun x => c :: x)
  | [], w, ws, h => by cases h; rfl
  | b :: l, w, ws, h => by
    rw [wordsL] at h
    by_cases hb : b = c
    · rw [if_pos hb] at h
      injection h with h1 h2
      subst h1 h2
      cases hx : wordsL c l with
      | nil =>
        exact absurd hx (by
          cases l with
          | nil => simp [wordsL]
          | cons d l =>
            rw [wordsL]
            split
            · simp
            · split <;> simp)
      | cons a t =>
        rw [hb, List.nil_append, List.flatMap_cons, List.cons_append, ← words_join c l a t hx]
    · rw [if_neg hb] at h
      cases hx : wordsL c l with
      | nil =>
        exact absurd hx (by
          cases l with
          | nil => simp [wordsL]
          | cons d l =>
            rw [wordsL]
            split
            · simp
            · split <;> simp)
      | cons a t =>
        rw [hx] at h
        injection h with h1 h2
        subst h1 h2
        rw [List.cons_append, ← words_join c l a t hx]
theorem words_ne (c : UInt8) (l : List UInt8) : ∃ a t, wordsL c l = a :: t := by
  cases l with
  | nil => exact ⟨_, _, rfl⟩
  | cons d l =>
    rw [wordsL]
    split
    · exact ⟨_, _, rfl⟩
    · split <;> exact ⟨_, _, rfl⟩
theorem words_no (c : UInt8) : ∀ (l w : List UInt8), w ∈ wordsL c l → c ∉ w
  | [], w, h => by
    rw [wordsL, List.mem_singleton] at h
    rw [h]
    exact List.not_mem_nil
  | b :: l, w, h => by
    rw [wordsL] at h
    by_cases hb : b = c
    · rw [if_pos hb] at h
      rcases List.mem_cons.mp h with rfl | h
      · exact List.not_mem_nil
      · exact words_no c l w h
    · rw [if_neg hb] at h
      obtain ⟨a, t, hx⟩ := words_ne c l
      rw [hx] at h
      rcases List.mem_cons.mp h with rfl | h
      · intro hm
        rcases List.mem_cons.mp hm with e | hm
        · exact hb e.symm
        · exact words_no c l a (by rw [hx]; exact List.mem_cons_self) hm
      · exact words_no c l w (by rw [hx]; exact List.mem_cons_of_mem _ h)
theorem words_joined (c : UInt8) : ∀ (ws : List (List UInt8)) (w : List UInt8), c ∉ w → (∀ x ∈ ws, c ∉ x) → wordsL c (w ++ ws.flatMap (fun x => c :: x)) = w :: ws
  | [], w, hw, _ => by rw [List.flatMap_nil, List.append_nil, words_one c w hw]
  | x :: ws, w, hw, h => by
    rw [List.flatMap_cons, List.cons_append, words_cat c _ w hw, words_joined c ws x (h x List.mem_cons_self) (fun y hy => h y (List.mem_cons_of_mem _ hy))]
theorem numsL_map (ns : List Int) : numsL ns = (ns.map Lib.itoa).flatMap (fun x => 32 :: x) := by
  unfold numsL
  rw [List.flatMap_map]
theorem itoa_no (c : UInt8) (n : Int) (h : c ≠ 45) (h2 : c.toNat < 48 ∨ 57 < c.toNat) : c ∉ Lib.itoa n := by
  intro hm
  rcases itoa_all n c hm with e | e
  · exact h e
  · omega
theorem scanF_iff (l word : List UInt8) (hw : (32 : UInt8) ∉ word) (m : Nat) (ns : List Int) : scanF l word m = some ns ↔ l = word ++ numsL ns ∧ ns.length = m ∧ ∀ n ∈ ns, numIn n = true := by
  constructor
  · intro h
    unfold scanF at h
    obtain ⟨a, t, hx⟩ := words_ne 32 l
    rw [hx] at h
    have h : (if a = word ∧ t.length = m then numsOf t else none) = some ns := h
    split at h
    · rename_i hc
      obtain ⟨h1, h2⟩ := (numsOf_iff t ns).mp h
      refine ⟨?_, ?_, h2⟩
      · rw [words_join 32 l a t hx, hc.1, numsL_map, h1]
      · rw [← hc.2, h1, List.length_map]
    · cases h
  · rintro ⟨rfl, rfl, hn⟩
    unfold scanF
    rw [numsL_map, words_joined 32 _ word hw (fun x hx => by
      obtain ⟨n, _, rfl⟩ := List.mem_map.mp hx
      exact itoa_no 32 n (by decide) (by decide))]
    show (if word = word ∧ (ns.map Lib.itoa).length = ns.length then numsOf (ns.map Lib.itoa) else none) = _
    rw [if_pos ⟨rfl, List.length_map _⟩, (numsOf_iff _ ns).mpr ⟨rfl, hn⟩]
theorem words_flat (c : UInt8) (x : List UInt8) : (wordsL c x).flatMap (· ++ [c]) = x ++ [c] := by
  obtain ⟨a, t, hx⟩ := words_ne c x
  have hj := words_join c x a t hx
  rw [hx, hj]
  have gen : ∀ (t : List (List UInt8)) (a : List UInt8), (a :: t).flatMap (· ++ [c]) = a ++ t.flatMap (fun x => c :: x) ++ [c] := by
    intro t
    induction t with
    | nil => intro a; simp
    | cons b t ih =>
      intro a
      rw [List.flatMap_cons, ih b, List.flatMap_cons]
      simp
  exact gen t a
end
end Go.Proofs.YtndojpcjhkncgaaGreatDoor.Q
end
section
namespace Go.Proofs.YtndojpcjhkncgaaGreatDoor.Q
open Go Go.RowKit Go.Shelf Go.Proofs.YtndojpcjhkncgaaGreatDoorW.PrintWords
section
def bodyPostX {α : Type} (D : Nat) (Kp : World → World → Prop) (I Ix : List α → World → Prop) (xs : List α) (W : World) : Exit → Act → World → Prop
  | .normal, _, W' => (∀ k, k = D ∨ k = D + 1 → W'.heap[k]? = W.heap[k]?) ∧ Kp W W' ∧ I xs W'
  | .ret, _, W' => (∀ k, k = D ∨ k = D + 1 → W'.heap[k]? = W.heap[k]?) ∧ Kp W W' ∧ Ix xs W'
  | _, _, _ => False
theorem range_law {α : Type} {P : Program} {n : Nat} {g : Operand} {ps : Array Tmp} {assign body : Code} {Q : Exit → Act → World → Prop} {a : Act} {w : World}
    {gf : Nat} {lb : Array Value} (hg : a.eval g = .func (.func gf) #[] lb) (eg : ∀ args w, (callFunc gf args).run P w = .ok (.enter gf args) w)
    (encs : α → Array Value) (hps : ∀ x, (encs x).size = ps.size) (Nx : List α → α → Prop) (Fin : List α → Prop) (Ex : World → Prop) (St Kp : World → World → Prop)
    (hseq : ∀ (J Jx : List α → World → Prop) (W : World), Below w.heap.size w W → W.heap.size = w.heap.size + 2 → (∀ pre A B, J pre A → St A B → J pre B) → (∀ pre A B, Jx pre A → St A B → Jx pre B) →
      (∀ pre x W1, Nx pre x → J pre W1 → Ex W1 → YieldAt Fence.wide (n - 1 - 1) P (w.heap.size + 1) (encs x) W1 fun e W' => (e = .returned (.bool true) ∧ J (pre ++ [x]) W' ∧ Kp W1 W') ∨ (e = .returned (.bool false) ∧ Jx (pre ++ [x]) W' ∧ Kp W1 W')) →
      J [] W → CallsIn Fence.wide (n - 1) P gf (#[.func (.yield (w.heap.size + 1)) #[] #[]] ++ lb) W fun e W' => (∃ v, e = .returned v) ∧ ((∃ xs, Fin xs ∧ J xs W') ∨ ∃ pre, Jx pre W'))
    (hSt : ∀ A B, St A B → ∀ k, k = w.heap.size ∨ k = w.heap.size + 1 → B.heap[k]? = A.heap[k]?)
    (hKt : ∀ A B C, Kp A B → Kp B C → Kp A C) (hKr : ∀ W o, Kp W (W.putObj (w.heap.size + 1) o))
    (hEx : ∀ W o, Ex W → Ex (W.putObj (w.heap.size + 1) o))
    (I Ix : List α → World → Prop) (hI0 : ∀ W, Below w.heap.size w W → W.heap.size = w.heap.size + 2 → I [] W) (hIs : ∀ pre A B, I pre A → St A B → I pre B) (hXs : ∀ pre A B, Ix pre A → St A B → Ix pre B)
    (hIr : ∀ pre W o, I pre W → I pre (W.putObj (w.heap.size + 1) o)) (hXr : ∀ pre W o, Ix pre W → Ix pre (W.putObj (w.heap.size + 1) o))
    (a₁ : α → Act)
    (hassign : ∀ (x : α) (W : World) (K : Act → World → Prop), K (a₁ x) W →
      assign.wpIn (Fence.wide.inRound (w.heap.size + 1)) (n - 1 - 1) P (Exit.then K (fun _ _ _ => False)) { tmps := (ps.zip (encs x)).foldl (fun t (p, v) => t.setIfInBounds p v) a.tmps, defers := [] } W)
    (hbody : ∀ (pre : List α) (x : α) (W : World), Nx pre x → I pre W → Ex W → w.heap.size + 1 < W.heap.size → body.wpIn (Fence.wide.inRound (w.heap.size + 1)) (n - 1 - 1) P (bodyPostX w.heap.size Kp I Ix (pre ++ [x]) W) (a₁ x) W)
    (hdone : ∀ (xs : List α) (W : World), Fin xs → I xs W → W.heap[w.heap.size]? = some (.deferred (some [])) → Q .normal { a with defers := { target := .collected w.heap.size, args := #[] } :: a.defers } W)
    (hstop : ∀ (pre : List α) (W : World), Ix pre W → W.heap[w.heap.size]? = some (.deferred (some [])) → Code.ret.wpIn Fence.wide n P Q { a with defers := { target := .collected w.heap.size, args := #[] } :: a.defers } W) :
    (Code.rangeFunc g ps assign body).wpIn Fence.wide n P Q a w := by
  refine wpIn_rangeFunc ?_
  intro fn hfn
  obtain ⟨book, hbook⟩ : ∃ book : LoopState → Option Code → Loop, book = fun st pe => { state := st, pending := pe, fn, tmps := a.tmps, params := ps, assign, body, defers := w.heap.size } := ⟨_, rfl⟩
  obtain ⟨W1, hW1⟩ : ∃ W1, (w.alloc (.deferred (some []))).alloc (.loop (book .ready none)) = W1 := ⟨_, rfl⟩
  have hBk : W1.heap[w.heap.size + 1]? = some (.loop (book .ready none)) := by
    have h := World.alloc_heap_new (w.alloc (.deferred (some []))) (.loop (book .ready none))
    rw [World.size_alloc] at h
    rw [← hW1]; exact h
  have hDf : W1.heap[w.heap.size]? = some (.deferred (some [])) := by
    rw [← hW1]; exact (Below.heap_alloc _ _ _ (by simp)).trans (World.alloc_heap_new w _)
  have hlow : Below w.heap.size w W1 := by rw [← hW1]; exact ((Below.refl _ w).alloc (Nat.le_refl _) _).alloc (by simp) _
  have hsz : W1.heap.size = w.heap.size + 2 := by rw [← hW1]; simp
  refine ⟨w.heap.size + 1, [{ target := .collected w.heap.size, args := #[] }], W1, { target := .fn (.func gf) lb, args := #[.func (.yield (w.heap.size + 1)) #[] #[]] }, W1, gf,
    #[.func (.yield (w.heap.size + 1)) #[] #[]] ++ lb, W1, ?_, ?_, fun _ _ => trivial, ?_, (fun h => by cases h), ?_⟩
  · rw [← hW1, hbook]; exact run_enterLoop_outer _ _ _ _ _
  · simp only [resolve, hg]
    simp [go_sem]
  · simp [invoke, go_sem, eg]
  · refine (hseq (fun pre W => I pre W ∧ W.heap[w.heap.size + 1]? = some (.loop (book .ready none)) ∧ W.heap[w.heap.size]? = some (.deferred (some [])))
      (fun pre W => Ix pre W ∧ W.heap[w.heap.size + 1]? = some (.loop (book .done (some .ret))) ∧ W.heap[w.heap.size]? = some (.deferred (some [])))
      W1 hlow hsz (fun pre A B h hs => ⟨hIs pre A B h.1 hs, (hSt A B hs _ (.inr rfl)).trans h.2.1, (hSt A B hs _ (.inl rfl)).trans h.2.2⟩) (fun pre A B h hs => ⟨hXs pre A B h.1 hs, (hSt A B hs _ (.inr rfl)).trans h.2.1, (hSt A B hs _ (.inl rfl)).trans h.2.2⟩) ?_ ⟨hI0 W1 hlow hsz, hBk, hDf⟩).mono ?_
    · rintro pre x W hN ⟨hi, hl, hk⟩ hE
      have hlt : w.heap.size + 1 < W.heap.size := (Array.getElem?_eq_some_iff.1 hl).1
      have hy := run_yield (P := P) (args := encs x) hl (by rw [hbook]; exact hps x)
      rw [hbook] at hy
      refine ⟨fn, _, assign, body, hy, roundIn_of_wpIn hfn (hassign x W _ ⟨_, run_beginRound hl (by rw [hbook]), ?_⟩)⟩
      have l2 : (W.putObj (w.heap.size + 1) (.loop { book .ready none with state := .busy })).heap[w.heap.size + 1]? = some (.loop { book .ready none with state := .busy }) := World.putObj_heap_same hlt
      have d2 : (W.putObj (w.heap.size + 1) (.loop { book .ready none with state := .busy })).heap[w.heap.size]? = some (.deferred (some [])) := (World.putObj_heap_other (by omega)).trans hk
      refine wpIn_mono (hbody pre x _ hN (hIr _ _ _ hi) (hEx _ _ hE) (by simpa using hlt)) ?_
      have fin : ∀ (jump : Option Code) (W3 : World), (∀ k, k = w.heap.size ∨ k = w.heap.size + 1 → W3.heap[k]? = (W.putObj (w.heap.size + 1) (.loop { book .ready none with state := .busy })).heap[k]?) →
          (Instr.endRound (w.heap.size + 1) jump).run P W3 = .ok (.bool jump.isNone) (W3.putObj (w.heap.size + 1) (.loop (book (if jump.isNone then .ready else .done) jump))) ∧
          (W3.putObj (w.heap.size + 1) (.loop (book (if jump.isNone then .ready else .done) jump))).heap[w.heap.size + 1]? = some (.loop (book (if jump.isNone then .ready else .done) jump)) ∧
          (W3.putObj (w.heap.size + 1) (.loop (book (if jump.isNone then .ready else .done) jump))).heap[w.heap.size]? = some (.deferred (some [])) := fun jump W3 hs => by
        have l3 := (hs _ (.inr rfl)).trans l2
        have hr := run_endRound (P := P) jump l3
        rw [hbook] at hr ⊢
        exact ⟨hr, World.putObj_heap_same (Array.getElem?_eq_some_iff.1 l3).1, (World.putObj_heap_other (by omega)).trans ((hs _ (.inl rfl)).trans d2)⟩
      rintro e a3 W3 hp
      cases e with
      | normal =>
        obtain ⟨h1, h2, h3⟩ := hp
        obtain ⟨hr, l4, d4⟩ := fin none W3 h1
        exact ⟨_, _, hr, .inl ⟨rfl, ⟨hIr _ _ _ h3, l4, d4⟩, hKt _ _ _ (hKt _ _ _ (hKr _ _) h2) (hKr _ _)⟩⟩
      | ret =>
        obtain ⟨h1, h2, h3⟩ := hp
        obtain ⟨hr, l4, d4⟩ := fin (some .ret) W3 h1
        exact ⟨_, _, hr, .inr ⟨rfl, ⟨hXr _ _ _ h3, l4, d4⟩, hKt _ _ _ (hKt _ _ _ (hKr _ _) h2) (hKr _ _)⟩⟩
      | exit id => exact hp.elim
      | goto t => exact hp.elim
      | panic ch => exact hp.elim
      | outgrown => exact hp.elim
    · rintro e W2 ⟨⟨v, rfl⟩, (⟨xs, hS, hi, hl, hk⟩ | ⟨pre, hi, hl, hk⟩)⟩
      · exact ⟨none, _, by have h := run_endLoop (P := P) hl (by rw [hbook]; simp); rw [hbook] at h; exact h, hdone xs _ hS (hIr _ _ _ hi) ((World.putObj_heap_other (by omega)).trans hk)⟩
      · exact ⟨some .ret, _, by have h := run_endLoop (P := P) hl (by rw [hbook]; simp); rw [hbook] at h; exact h, hstop pre _ (hXr _ _ _ hi) ((World.putObj_heap_other (by omega)).trans hk)⟩
end
section
attribute [local go_sem] Oper.semAt_some
theorem yield_any {P : Program} {m m' l : Nat} {args : Array Value} {W : World} {R : Ending → World → Prop} (h : YieldAt Fence.wide m P l args W R) : YieldAt Fence.wide m' P l args W R := by
  obtain ⟨fn, tmps, assign, body, hy, hR⟩ := h
  exact ⟨fn, tmps, assign, body, hy, hR.1, fun c cs _ => hR.2 c cs (room_wide _)⟩
theorem lines_make (s : ByteArray) (w : World) : Calls Tryz.prog 77 #[.string s] w fun e w' => e = .returned (.func (.func 92) #[] #[.pointer (some ⟨w.heap.size, 0, none⟩)]) ∧ w' = w.alloc (.cells #[.string s] 9 (0, 0)) := by
  go_enter Tryz.func77, Tryz.ntmps77
  go_wp2
  go_ret
  exact ⟨rfl, rfl⟩
structure OutR (B0 B1 : Nat) (A B : World) : Prop where
  os : B.os = A.os
  tape : B.tape = A.tape
  output : B.output = A.output
  size : A.heap.size ≤ B.heap.size
  same : ∀ k, k < B0 ∨ B1 ≤ k → B.heap[k]? = A.heap[k]?
theorem OutR.set (B0 B1 : Nat) (W : World) (b j : Nat) (v : Value) (h0 : B0 ≤ b) (h1 : b < B1) : OutR B0 B1 W (W.setCell ⟨b, j, none⟩ v) :=
  ⟨rfl, rfl, rfl, by simp [World.setCell], fun k hk => Below.heap_setCell W ⟨b, j, none⟩ v k (by show k ≠ b; omega)⟩
theorem OutR.put (B0 B1 : Nat) (W : World) (b : Nat) (o : Obj) (h0 : B0 ≤ b) (h1 : b < B1) : OutR B0 B1 W (W.putObj b o) :=
  ⟨rfl, rfl, rfl, by simp, fun k hk => World.putObj_heap_other (by omega)⟩
theorem OutR.drew (B0 B1 : Nat) (W : World) : OutR B0 B1 W W.drew := ⟨rfl, rfl, rfl, Nat.le_refl _, fun _ _ => rfl⟩
theorem trim_piece (x : List UInt8) : (⟨(Lib.trimSuffix (Bt (x ++ [10])).data.toList (⟨#[10]⟩ : ByteArray).data.toList).toArray⟩ : ByteArray) = Bt x := by
  have h1 : (Bt (x ++ [10])).data.toList = x ++ [10] := by unfold Bt; simp
  have h2 : (⟨#[10]⟩ : ByteArray).data.toList = [10] := rfl
  rw [h1, h2]
  have h3 : Lib.hasSuffix (x ++ [10]) [10] = true := by
    unfold Lib.hasSuffix
    rw [List.isSuffixOf_iff_suffix]
    exact ⟨x, rfl⟩
  unfold Lib.trimSuffix Bt
  rw [h3]
  simp
set_option maxHeartbeats 2000000 in
theorem bankLines1_in (n l bt : Nat) (ps : List (List UInt8)) (hno : ∀ p ∈ ps, (10 : UInt8) ∉ p) (hsz : (flatL ps).length ≤ 4611686018427387904) (W : World)
    (J Jx : List (List UInt8) → World → Prop) (hJ : ∀ pre A B, J pre A → OutR W.heap.size (W.heap.size + 4) A B → J pre B)
    (hY : ∀ pre x rest W1, ps = pre ++ x :: rest → J pre W1 → W.heap.size + 4 ≤ W1.heap.size → YieldAt Fence.wide (n - 1) Tryz.prog l #[.string (Bt x)] W1 fun e W' =>
      (e = .returned (.bool true) ∧ J (pre ++ [x]) W' ∧ W1.heap.size ≤ W'.heap.size ∧ ∀ k, W.heap.size ≤ k → k < W.heap.size + 4 → W'.heap[k]? = W1.heap[k]?) ∨ (e = .returned (.bool false) ∧ Jx (pre ++ [x]) W' ∧ ∀ k, W.heap.size ≤ k → k < W.heap.size + 4 → W'.heap[k]? = W1.heap[k]?))
    (hJx : ∀ pre A B, Jx pre A → OutR W.heap.size (W.heap.size + 4) A B → Jx pre B)
    (hb : W.heap[bt]? = some (.cells #[.string (Bt (flatL ps))] 9 (0, 0))) (h0 : J [] W) :
    CallsIn Fence.wide n Tryz.prog 76 #[.func (.yield l) #[] #[], .pointer (some ⟨bt, 0, none⟩)] W fun e W' => (∃ v, e = .returned v) ∧ (J ps W' ∨ ∃ pre, Jx pre W') := by
  refine callsIn_of_wp_marks Tryz.func76 rfl trivial ?_ rfl
  simp only [Tryz.ntmps76, List.size_toArray, List.length_cons, List.length_nil, Nat.reduceAdd, Nat.reduceSub, Array.replicate_succ, Array.replicate_zero, List.push_toArray, List.append_toArray, List.nil_append, List.cons_append]
  obtain ⟨S, hS⟩ : ∃ S, S = Bt (flatL ps) := ⟨_, rfl⟩
  rw [← hS] at hb
  have hcc : W.cell? ⟨bt, 0, none⟩ = some (.string S) := bkc hb 0
  have hbl := blk_lt hb
  have hc2 : (W.alloc (.cells #[.func (.yield l) #[] #[]] 23 (0, 0))).cell? ⟨bt, 0, none⟩ = some (.string S) := bkc (blk_alloc hb _) 0
  have HS := Lib.hid hS
  clear hS
  gi_wp2
  refine ⟨trivial, (fun h => by cases h), (callsIn_wide.2 (lines_make S _)).mono ?_⟩
  rintro e w' ⟨rfl, rfl⟩
  gi_wp2
  have HB2 := Lib.hid (show Below W.heap.size W ((W.alloc (.cells #[.func (.yield l) #[] #[]] 23 (0, 0))).alloc (.cells #[.string S] 9 (0, 0))) from ((Below.refl _ W).alloc (Nat.le_refl _) _).alloc (by simp) _)
  have hby2 : ((W.alloc (.cells #[.func (.yield l) #[] #[]] 23 (0, 0))).alloc (.cells #[.string S] 9 (0, 0))).heap[W.heap.size]? = some (.cells #[.func (.yield l) #[] #[]] 23 (0, 0)) := blk_alloc (blk_new W _) _
  have hbs2 : ((W.alloc (.cells #[.func (.yield l) #[] #[]] 23 (0, 0))).alloc (.cells #[.string S] 9 (0, 0))).heap[W.heap.size + 1]? = some (.cells #[.string S] 9 (0, 0)) := by
    have h := blk_new (W.alloc (.cells #[.func (.yield l) #[] #[]] 23 (0, 0))) (.cells #[.string S] 9 (0, 0))
    rwa [World.size_alloc] at h
  have hs2 : ((W.alloc (.cells #[.func (.yield l) #[] #[]] 23 (0, 0))).alloc (.cells #[.string S] 9 (0, 0))).heap.size = W.heap.size + 2 := by simp
  clear hc2 hcc
  generalize (W.alloc (.cells #[.func (.yield l) #[] #[]] 23 (0, 0))).alloc (.cells #[.string S] 9 (0, 0)) = w2 at HB2 hby2 hbs2 hs2 ⊢
  refine range_law (gf := 92) (lb := #[.pointer (some ⟨W.heap.size + 1, 0, none⟩)]) rfl (enters_of Tryz.func92 (by kernel_rfl) rfl) (fun x : List UInt8 => #[.string (Bt (x ++ [10]))]) (fun _ => rfl)
    (fun pre x => ∃ rest, ps = pre ++ x :: rest) (fun xs => xs = ps) (fun W1 => ∃ s, W1.heap[W.heap.size + 1]? = some (.cells #[.string s] 9 (0, 0)))
    (fun A B => (∃ v, B = A.setCell ⟨W.heap.size + 1, 0, none⟩ v) ∨ B = A.drew) (fun A B => B.heap[W.heap.size + 1]? = A.heap[W.heap.size + 1]?)
    ?seq ?St (fun A B C h1 h2 => h2.trans h1) (fun W1 o => World.putObj_heap_other (by omega)) (fun W1 o ⟨s, h⟩ => ⟨s, (World.putObj_heap_other (by omega)).trans h⟩)
    (fun pre W1 => J pre W1 ∧ W1.heap[W.heap.size]? = some (.cells #[.func (.yield l) #[] #[]] 23 (0, 0)) ∧ W.heap.size + 4 ≤ W1.heap.size) Jx
    ?I0 ?Is ?Xs ?Ir (fun pre W1 o h => hJx _ _ _ h (OutR.put _ _ _ _ _ (by omega) (by omega)))
    (fun x => { tmps := #[.func (.yield l) #[] #[], .pointer (some ⟨bt, 0, none⟩), .pointer (some ⟨W.heap.size, 0, none⟩), .string (Bt (x ++ [10])), .string S, .func (.func 92) #[] #[.pointer (some ⟨W.heap.size + 1, 0, none⟩)], .string (Bt (x ++ [10])), undef, undef, undef, undef, undef], defers := [] }) ?assign ?body ?done ?stop
  case seq =>
    intro J' Jx' W1 hlow hsz1 hst _ hy' h0'
    refine (lines1_in (n - 1) (w2.heap.size + 1) (W.heap.size + 1) ps hno hsz J' Jx' (fun pre A v h => hst _ _ _ h (.inl ⟨v, rfl⟩)) (fun pre A h => hst _ _ _ h (.inr rfl)) (fun pre x rest s A hp hj hc => hy' pre x A ⟨rest, hp⟩ hj ⟨s, hc⟩) W1 (by rw [← HS.out]; exact blk_below hbs2 hlow) h0').mono ?_
    rintro e W' ⟨hv, hj | hx⟩
    · exact ⟨hv, .inl ⟨ps, rfl, hj⟩⟩
    · exact ⟨hv, .inr hx⟩
  case St =>
    rintro A B (⟨v, rfl⟩ | rfl) k hk
    · exact Below.heap_setCell _ _ _ _ (by show k ≠ W.heap.size + 1; omega)
    · rfl
  case I0 =>
    intro W1 hlow hsz1
    refine ⟨hJ _ _ _ h0 ?_, blk_below hby2 hlow, by omega⟩
    have hb3 := below_then HB2.out (by omega) hlow
    refine ⟨hb3.os, hb3.tape, hb3.output, hb3.size, fun k hk => ?_⟩
    by_cases hlt : k < W.heap.size
    · exact hb3.block k hlt
    · rw [Array.getElem?_eq_none (by omega), Array.getElem?_eq_none (by omega)]
  case Is =>
    rintro pre A B ⟨h1, h2, h3⟩ (⟨v, rfl⟩ | rfl)
    · exact ⟨hJ _ _ _ h1 (OutR.set _ _ _ _ _ _ (by omega) (by omega)), (Below.heap_setCell _ _ _ _ (by show W.heap.size ≠ W.heap.size + 1; omega)).trans h2, by simpa [World.setCell] using h3⟩
    · exact ⟨hJ _ _ _ h1 (OutR.drew _ _ _), h2, h3⟩
  case Xs =>
    rintro pre A B h (⟨v, rfl⟩ | rfl)
    · exact hJx _ _ _ h (OutR.set _ _ _ _ _ _ (by omega) (by omega))
    · exact hJx _ _ _ h (OutR.drew _ _ _)
  case Ir =>
    rintro pre W1 o ⟨h1, h2, h3⟩
    exact ⟨hJ _ _ _ h1 (OutR.put _ _ _ _ _ (by omega) (by omega)), (World.putObj_heap_other (by omega)).trans h2, by simpa using h3⟩
  case assign =>
    intro x W1 K hK
    gi_wp2
    exact hK
  case body =>
    rintro pre x W1 ⟨rest, hp⟩ ⟨hj, hby, hs4⟩ ⟨s, hbs⟩ hlt
    have hcy : W1.cell? ⟨W.heap.size, 0, none⟩ = some (.func (.yield l) #[] #[]) := bkc hby 0
    obtain ⟨fn, tmps, assign, body, hyy, hR⟩ := hY pre x rest W1.drew hp (hJ _ _ _ hj (OutR.drew _ _ _)) hs4
    have hxl : (Bt (x ++ [10])).size ≤ 9223372036854775807 := by
      have h1 : (flatL (pre ++ x :: rest)).length = (flatL pre).length + (x.length + 1 + (flatL rest).length) := by unfold flatL; rw [List.flatMap_append, List.length_append, List.flatMap_cons, List.length_append, List.length_append]; rfl
      rw [hp, h1] at hsz
      rw [Bt_size, List.length_append]
      simp
      omega
    have hT := trim_piece x
    have HTr : ∀ w', CallsIn Fence.wide (n - 1 - 1 - 1) Tryz.prog 78 #[.string (Bt (x ++ [10])), .string ⟨#[10]⟩] w' fun e w'' => e = .returned (.string (Bt x)) ∧ w'' = w' := fun w' => by
      have h : CallsIn Fence.wide (n - 1 - 1 - 1) Tryz.prog 78 #[.string (Bt (x ++ [10])), .string ⟨#[10]⟩] w' _ := callsIn_wide.2 (Tryz.strings_TrimSuffix (Bt (x ++ [10])) ⟨#[10]⟩ w' hxl)
      rw [hT] at h
      exact h
    have HTr := Lib.hid HTr
    clear hT
    have HR : RoundIn Fence.wide (n - 1 - 1 - 1) Tryz.prog l fn tmps assign body W1.drew fun e W' => ∃ b : Bool, e = .returned (.bool b) ∧ Hid ((∀ k, W.heap.size ≤ k → k < W.heap.size + 4 → W'.heap[k]? = W1.heap[k]?) ∧ (if b = true then J (pre ++ [x]) W' ∧ W1.heap.size ≤ W'.heap.size else Jx (pre ++ [x]) W')) := by
      refine (show RoundIn Fence.wide (n - 1 - 1 - 1) Tryz.prog l fn tmps assign body W1.drew _ from ⟨hR.1, fun c cs _ => hR.2 c cs (room_wide _)⟩).mono ?_
      rintro e W' (⟨rfl, h1, h2, h3⟩ | ⟨rfl, h1, h3⟩)
      · exact ⟨true, rfl, Lib.hid ⟨h3, by rw [if_pos rfl]; exact ⟨h1, h2⟩⟩⟩
      · exact ⟨false, rfl, Lib.hid ⟨h3, by rw [if_neg (by simp)]; exact h1⟩⟩
    have HR := Lib.hid HR
    clear hR
    gi_wp2
    gi_region_with (first
      | (refine ⟨trivial, (fun h => by cases h), ?_⟩; gi_at_call 78; refine (CallsIn.inRound _ (HTr.out _)).mono ?_; rintro e w' ⟨rfl, rfl⟩)
      | (refine ⟨(fun h => by cases h), ?_⟩; refine HR.out.mono ?_; rintro e w' ⟨b, rfl, hpost⟩))
    all_goals
      have hKeep := Lib.hid hpost.out.1
      have hPost := Lib.hid hpost.out.2
      clear hpost HR HTr
      cases b with
      | true =>
        gi_wp2
        have h := hPost.out
        simp only [if_true] at h
        exact ⟨fun k hk => hKeep.out k (by omega) (by omega), hKeep.out _ (by omega) (by omega), h.1, (hKeep.out _ (Nat.le_refl _) (by omega)).trans hby, by omega⟩
      | false =>
        gi_wp2
        have h := hPost.out
        simp only [Bool.false_eq_true, if_false] at h
        exact ⟨fun k hk => hKeep.out k (by omega) (by omega), hKeep.out _ (by omega) (by omega), h⟩
  case done =>
    rintro xs W1 rfl ⟨hj, _, _⟩ hK
    gi_wp2
    refine ⟨by simp, .inl ⟨_, _, rfl, run_takeDeferred hK, ?_⟩⟩
    exact ⟨_, results_none rfl _ _ _, ⟨_, rfl⟩, .inl (hJ _ _ _ hj (OutR.put _ _ _ _ _ (by omega) (by omega)))⟩
  case stop =>
    rintro pre W1 hx hK
    gi_wp2
    refine ⟨by simp, .inl ⟨_, _, rfl, run_takeDeferred hK, ?_⟩⟩
    exact ⟨_, results_none rfl _ _ _, ⟨_, rfl⟩, .inr ⟨pre, hJx _ _ _ hx (OutR.put _ _ _ _ _ (by omega) (by omega))⟩⟩
end
end Go.Proofs.YtndojpcjhkncgaaGreatDoor.Q
end
section
namespace Go.Proofs.YtndojpcjhkncgaaGreatDoor.Q
open Go
section
def hexB (b : UInt8) : Bool := ([48, 49, 50, 51, 52, 53, 54, 55, 56, 57, 97, 98, 99, 100, 101, 102] : List UInt8).contains b
def closedF (l : List UInt8) : Bool := decide (l.take 4 = [69, 78, 68, 32]) && (decide (l[12]? = some 32) && (decide (l[21]? = some 10) && (((l.drop 4).take 8 ++ (l.drop 13).take 8).all hexB)))
def formB (t : List UInt8) : Bool := decide (23 ≤ t.length) && (closedF (t.drop (t.length - 22)) && decide (t[t.length - 23]? = some 10))
def linesOf (t : List UInt8) : List (List UInt8) := wordsL 10 (t.take (t.length - 23))
def lineOk (w1 : List UInt8) (m1 : Nat) (w2 : List UInt8) (m2 : Nat) (pre : List (List UInt8)) (x : List UInt8) : Bool := if pre = [] then (scanF x w1 m1).isSome else (scanF x w2 m2).isSome
def allOk (ok : List (List UInt8) → List UInt8 → Bool) : List (List UInt8) → List (List UInt8) → Bool
  | _, [] => true
  | pre, x :: r => ok pre x && allOk ok (pre ++ [x]) r
def scansF (w : List UInt8) (m : Nat) : List (List UInt8) → Option (List (List Int))
  | [] => some []
  | l :: ls => match scanF l w m, scansF w m ls with | some r, some rs => some (r :: rs) | _, _ => none
def rowsF (w1 : List UInt8) (m1 : Nat) (w2 : List UInt8) (m2 : Nat) : List (List UInt8) → Option (List Int × List (List Int))
  | [] => none
  | l :: ls => match scanF l w1 m1, scansF w2 m2 ls with | some h, some rs => some (h, rs) | _, _ => none
theorem allOk_rest (w1 : List UInt8) (m1 : Nat) (w2 : List UInt8) (m2 : Nat) : ∀ (ls pre : List (List UInt8)), pre ≠ [] → allOk (lineOk w1 m1 w2 m2) pre ls = (scansF w2 m2 ls).isSome
  | [], pre, h => rfl
  | x :: r, pre, h => by
    rw [allOk, allOk_rest w1 m1 w2 m2 r (pre ++ [x]) (by simp), lineOk, if_neg h, scansF]
    cases scanF x w2 m2 <;> cases scansF w2 m2 r <;> rfl
theorem allOk_rows (w1 : List UInt8) (m1 : Nat) (w2 : List UInt8) (m2 : Nat) (l : List UInt8) (ls : List (List UInt8)) : allOk (lineOk w1 m1 w2 m2) [] (l :: ls) = (rowsF w1 m1 w2 m2 (l :: ls)).isSome := by
  rw [allOk, allOk_rest w1 m1 w2 m2 ls _ (by simp), lineOk, if_pos rfl, rowsF]
  cases scanF l w1 m1 <;> cases scansF w2 m2 ls <;> rfl
theorem scansF_snoc (w : List UInt8) (m : Nat) : ∀ (ls : List (List UInt8)) (x : List UInt8), scansF w m (ls ++ [x]) = match scansF w m ls, scanF x w m with | some rs, some r => some (rs ++ [r]) | _, _ => none
  | [], x => by
    show (match scanF x w m, scansF w m [] with | some r, some rs => some (r :: rs) | _, _ => none) = _
    rw [scansF]
    cases scanF x w m <;> rfl
  | l :: ls, x => by
    rw [List.cons_append, scansF, scansF_snoc w m ls x, scansF]
    cases scanF l w m <;> cases scansF w m ls <;> cases scanF x w m <;> rfl
theorem scanF_len (l word : List UInt8) (m : Nat) (ns : List Int) (h : scanF l word m = some ns) : ns.length = m := by
  unfold scanF at h
  split at h
  · split at h
    · rename_i hc
      rw [numsOf_len _ _ h, hc.2]
    · cases h
  · cases h
end
end Go.Proofs.YtndojpcjhkncgaaGreatDoor.Q
end
section
namespace Go.Proofs.YtndojpcjhkncgaaGreatDoor.Q
open Go Go.RowKit Go.Shelf Go.Proofs.YtndojpcjhkncgaaGreatDoorW.PrintWords
section
theorem drop_all (p : UInt8 → Bool) : ∀ l : List UInt8, (l.dropWhile p).all p = true → l.all p = true
  | [], _ => rfl
  | a :: l, h => by
    by_cases ha : p a = true
    · rw [List.dropWhile_cons_of_pos ha] at h
      rw [List.all_cons, ha, drop_all p l h]
      rfl
    · rw [List.dropWhile_cons_of_neg ha, List.all_cons] at h
      simp [ha] at h
theorem trim_nil (l cs : List UInt8) : (Lib.trimS l cs = []) ↔ l.all (cs.contains ·) = true := by
  unfold Lib.trimS Lib.trimLeftS Lib.trimRightS
  constructor
  · intro h
    have h1 := drop_all (cs.contains ·) _ (by rw [h]; rfl)
    rw [List.all_reverse] at h1
    have h2 := drop_all (cs.contains ·) _ h1
    rwa [List.all_reverse] at h2
  · intro h
    have gen : ∀ l : List UInt8, l.all (cs.contains ·) = true → l.dropWhile (cs.contains ·) = [] := by
      intro l
      induction l with
      | nil => intro _; rfl
      | cons x l ih =>
        intro h
        rw [List.all_cons, Bool.and_eq_true] at h
        rw [List.dropWhile_cons_of_pos h.1]
        exact ih h.2
    have h1 : l.reverse.dropWhile (cs.contains ·) = [] := gen _ (by rw [List.all_reverse]; exact h)
    rw [h1]
    rfl
def hexS : ByteArray := ⟨#[48, 49, 50, 51, 52, 53, 54, 55, 56, 57, 97, 98, 99, 100, 101, 102]⟩
theorem trim_hex (s : ByteArray) (w : World) (hs : s.size ≤ 9223372036854775807) :
    Calls Tryz.prog 75 #[.string s, .string hexS] w fun e w' => e = .returned (.string ⟨(Lib.trimS s.data.toList hexS.data.toList).toArray⟩) ∧ Below w.heap.size w w' :=
  Any.strings_Trim_laid Tryz.lays160 (by kernel_rfl) s hexS w hs (by decide) (ascii_of_all (by decide))
theorem trim_all (s : ByteArray) : ((⟨(Lib.trimS s.data.toList hexS.data.toList).toArray⟩ : ByteArray).toList == []) = s.data.toList.all hexB := by
  rw [ByteArray.toList_eq, Bool.eq_iff_iff, beq_iff_eq]
  exact trim_nil _ _
theorem byte_at (s : ByteArray) (i : Nat) (h : i < s.size) (c : UInt8) : decide (s.data.toList[i]? = some c) = decide (((s[i]'h).toNat : Int) = (c.toNat : Int)) := by
  have h' : i < s.data.toList.length := h
  rw [List.getElem?_eq_getElem h', Bool.eq_iff_iff, decide_eq_true_iff, decide_eq_true_iff]
  show some (s[i]'h) = some c ↔ _
  rw [Option.some.injEq, Int.natCast_inj, UInt8.toNat_inj]
theorem closed_parts (s : ByteArray) (hs : s.size = 22) : closedF s.data.toList = (decide ((s.extract 0 4).toList = [69, 78, 68, 32]) && (decide (((s[12]'(by omega)).toNat : Int) = 32) && (!(((s[21]'(by omega)).toNat : Int) != 10) && (((s.data.toList.drop 4).take 8 ++ (s.data.toList.drop 13).take 8).all hexB)))) := by
  have e4 : (s.extract 0 4).toList = s.data.toList.take 4 := by rw [ByteArray.toList_eq, ByteArray.data_extract]; simp
  have h21 := byte_at s 21 (by omega) 10
  have e21 : (!(((s[21]'(by omega)).toNat : Int) != 10)) = decide (((s[21]'(by omega)).toNat : Int) = ((10 : UInt8).toNat : Int)) := by
    show (!(!(((s[21]'(by omega)).toNat : Int) == 10))) = _
    rw [Bool.not_not, Bool.eq_iff_iff, beq_iff_eq, decide_eq_true_iff]
    rfl
  unfold closedF
  rw [e4, byte_at s 12 (by omega) 32, h21, e21]
  rfl
set_option maxHeartbeats 1000000 in
theorem closed_go (s : ByteArray) (hs : s.size = 22) (w : World) :
    Calls Tryz.prog 65 #[.string s] w fun e w' => e = .returned (.bool (closedF s.data.toList)) ∧ Below w.heap.size w w' := by
  have hab : (s.extract 4 12 ++ s.extract 13 21).data.toList = (s.data.toList.drop 4).take 8 ++ (s.data.toList.drop 13).take 8 := by simp [ByteArray.data_extract, List.extract]
  have habs : (s.extract 4 12).size + (s.extract 13 21).size ≤ 9223372036854775807 := by simp; omega
  have hxs : (s.extract 4 12 ++ s.extract 13 21).size ≤ 9223372036854775807 := by rw [ByteArray.size_append]; exact habs
  obtain ⟨x, hx⟩ : ∃ x, x = s.extract 4 12 ++ s.extract 13 21 := ⟨_, rfl⟩
  rw [← hx] at hab hxs
  have hTr : ∀ w, Calls Tryz.prog 75 #[.string x, .string hexS] w fun e w' => ∃ y : ByteArray, e = .returned (.string y) ∧ Hid ((y.toList == []) = (((s.data.toList.drop 4).take 8 ++ (s.data.toList.drop 13).take 8).all hexB)) ∧ Below w.heap.size w w' := by
    intro w
    refine (trim_hex x w hxs).mono ?_
    rintro e w' ⟨rfl, hb⟩
    exact ⟨_, rfl, Lib.hid (by rw [trim_all, hab]), hb⟩
  have HT := Lib.hid hTr
  have HX := Lib.hid hx
  have HL := Lib.hid (show s.data.toList.length = 22 from hs)
  clear hx hab hxs hTr
  go_enter Tryz.func65, Tryz.ntmps65
  go_wp2_with fail
  · rename_i h4 h12 h21
    go_ret
    exact ⟨by rw [closed_parts s hs, h21]; simp, Below.refl _ _⟩
  · rename_i h4 h12 h21 K hK
    have H := Lib.hid (closed_parts s hs)
    rw [h21, decide_eq_true h4, decide_eq_true h12] at H
    clear h4 h12 h21
    go_region_with (go_at_call 75; rw [← HX.out]; refine (HT.out _).mono ?_; rintro e w' ⟨y, rfl, hy, hb⟩)
    go_wp2_with fail
    go_ret
    refine ⟨?_, (below_drew (Below.refl w.heap.size w)).trans hb⟩
    rw [H.out, ← hy.out]
    simp [Act.put]
  · rename_i h4 h12
    go_ret
    exact ⟨by rw [closed_parts s hs, decide_eq_false h12]; simp, Below.refl _ _⟩
  · rename_i h4
    go_ret
    exact ⟨by rw [closed_parts s hs, decide_eq_false h4]; simp, Below.refl _ _⟩
end
end Go.Proofs.YtndojpcjhkncgaaGreatDoor.Q
end
section
namespace Go.Proofs.YtndojpcjhkncgaaGreatDoor.Q
open Go Go.RowKit Go.Proofs.YtndojpcjhkncgaaGreatDoorW.PrintWords
section
theorem setAll_both {B : Nat} : ∀ (l : List ((Nat × Nat) × Int)) {A C : World}, Below B A C → (∀ x ∈ l, x.1.1 < B) → Below B (setAll A l) (setAll C l)
  | [], _, _, h, _ => h
  | x :: l, _, _, h, hb => setAll_both l (below_set_both h ⟨x.1.1, x.1.2, none⟩ (hb x List.mem_cons_self) _) (fun y hy => hb y (List.mem_cons_of_mem _ hy))
abbrev payL : List UInt8 := [80, 65, 89]
abbrev orderW : List UInt8 := [111, 114, 100, 101, 114]
abbrev backL : List UInt8 := [66, 65, 67, 75]
abbrev returnW : List UInt8 := [114, 101, 116, 117, 114, 110]
set_option maxHeartbeats 1000000 in
theorem read1_go (l : List UInt8) (hl : l.length ≤ 1048576) (w0 w : World) (hG0 : GG w0) (hlow : Below w0.heap.size w0 w) (bf bc bs : Nat) (cf cc cs : Array Value) (tf tc ts : TypeId)
    (hf : w.heap[bf]? = some (.cells cf tf (0, 0))) (hc : w.heap[bc]? = some (.cells cc tc (0, 0))) (hs : w.heap[bs]? = some (.cells cs ts (0, 0))) (h1 : 1 < cf.size) (h2 : 0 < cc.size) (h3 : 0 < cs.size)
    (b1 : w0.heap.size ≤ bf) (b2 : w0.heap.size ≤ bc) (b3 : w0.heap.size ≤ bs) :
    Calls Tryz.prog 48 #[.string (Bt l), .pointer (some ⟨bf, 0, none⟩), .pointer (some ⟨bc, 0, none⟩), .pointer (some ⟨bs, 0, none⟩)] w fun e w' =>
      ∃ ms, e = .returned (.bool (scanF l payL 4).isSome) ∧ ms.length ≤ 4 ∧ (∀ ns, scanF l payL 4 = some ns → ms = ns) ∧ Below w.heap.size (setAll w ([(bf, 0), (bf, 1), (bc, 0), (bs, 0)].zip ms)) w' := by
  have lf := blk_lt hf
  have lc := blk_lt hc
  have ls := blk_lt hs
  have hS : Calls Tryz.prog 49 #[.string (Bt l), .string ⟨#[80, 65, 89]⟩, .slice (some ⟨w.heap.size, 0, none⟩) 4 4] (w.alloc (.cells #[.pointer (some ⟨bf, 0, none⟩), .pointer (some ⟨bf, 1, none⟩), .pointer (some ⟨bc, 0, none⟩), .pointer (some ⟨bs, 0, none⟩)] 90 (0, 0))) _ :=
    scan_go l payL hl [(bf, 0), (bf, 1), (bc, 0), (bs, 0)] (by show 4 ≤ 100; decide) w.heap.size w0 _ hG0 (bla hlow _) (blk_new w _) (by
      intro p hp
      simp only [List.mem_cons, List.not_mem_nil, or_false] at hp
      rcases hp with rfl | rfl | rfl | rfl
      · exact ⟨by show bf ≠ w.heap.size; omega, b1, cf, tf, blk_alloc hf _, by show 0 < cf.size; omega⟩
      · exact ⟨by show bf ≠ w.heap.size; omega, b1, cf, tf, blk_alloc hf _, h1⟩
      · exact ⟨by show bc ≠ w.heap.size; omega, b2, cc, tc, blk_alloc hc _, h2⟩
      · exact ⟨by show bs ≠ w.heap.size; omega, b3, cs, ts, blk_alloc hs _, h3⟩)
  have HS := Lib.hid hS
  have HL := Lib.hid (And.intro lf (And.intro lc ls))
  clear hS hf hc hs lf lc ls
  go_enter Tryz.func48, Tryz.ntmps48
  go_wp2_with fail
  refine HS.out.mono ?_
  rintro e w' ⟨ms, rfl, hm1, hm2, hb⟩
  have HB := Lib.hid hb
  clear hb
  go_wp2_with fail
  go_ret
  refine ⟨ms, rfl, hm1, hm2, ?_⟩
  have h := bla (Below.refl w.heap.size w) (.cells #[.pointer (some ⟨bf, 0, none⟩), .pointer (some ⟨bf, 1, none⟩), .pointer (some ⟨bc, 0, none⟩), .pointer (some ⟨bs, 0, none⟩)] 90 (0, 0))
  refine (setAll_both _ h (fun x hx => ?_)).trans (HB.out.mono (by simp))
  have hx := (List.of_mem_zip hx).1
  simp only [List.mem_cons, List.not_mem_nil, or_false] at hx
  have := HL.out
  rcases hx with e | e | e | e <;> rw [e] <;> omega
set_option maxHeartbeats 1000000 in
theorem answer1_go (l : List UInt8) (hl : l.length ≤ 1048576) (w0 w : World) (hG0 : GG w0) (hlow : Below w0.heap.size w0 w) (bf bc : Nat) (cf cc : Array Value) (tf tc : TypeId)
    (hf : w.heap[bf]? = some (.cells cf tf (0, 0))) (hc : w.heap[bc]? = some (.cells cc tc (0, 0))) (h1 : 1 < cf.size) (h2 : 0 < cc.size)
    (b1 : w0.heap.size ≤ bf) (b2 : w0.heap.size ≤ bc) :
    Calls Tryz.prog 51 #[.string (Bt l), .pointer (some ⟨bf, 0, none⟩), .pointer (some ⟨bc, 0, none⟩)] w fun e w' =>
      ∃ ms, e = .returned (.bool (scanF l backL 3).isSome) ∧ ms.length ≤ 3 ∧ (∀ ns, scanF l backL 3 = some ns → ms = ns) ∧ Below w.heap.size (setAll w ([(bf, 0), (bf, 1), (bc, 0)].zip ms)) w' := by
  have lf := blk_lt hf
  have lc := blk_lt hc
  have hS : Calls Tryz.prog 49 #[.string (Bt l), .string ⟨#[66, 65, 67, 75]⟩, .slice (some ⟨w.heap.size, 0, none⟩) 3 3] (w.alloc (.cells #[.pointer (some ⟨bf, 0, none⟩), .pointer (some ⟨bf, 1, none⟩), .pointer (some ⟨bc, 0, none⟩)] 90 (0, 0))) _ :=
    scan_go l backL hl [(bf, 0), (bf, 1), (bc, 0)] (by show 3 ≤ 100; decide) w.heap.size w0 _ hG0 (bla hlow _) (blk_new w _) (by
      intro p hp
      simp only [List.mem_cons, List.not_mem_nil, or_false] at hp
      rcases hp with rfl | rfl | rfl
      · exact ⟨by show bf ≠ w.heap.size; omega, b1, cf, tf, blk_alloc hf _, by show 0 < cf.size; omega⟩
      · exact ⟨by show bf ≠ w.heap.size; omega, b1, cf, tf, blk_alloc hf _, h1⟩
      · exact ⟨by show bc ≠ w.heap.size; omega, b2, cc, tc, blk_alloc hc _, h2⟩)

  have HS := Lib.hid hS
  have HL := Lib.hid (And.intro lf lc)
  clear hS hf hc lf lc
  go_enter Tryz.func51, Tryz.ntmps51
  go_wp2_with fail
  refine HS.out.mono ?_
  rintro e w' ⟨ms, rfl, hm1, hm2, hb⟩
  have HB := Lib.hid hb
  clear hb
  go_wp2_with fail
  go_ret
  refine ⟨ms, rfl, hm1, hm2, ?_⟩
  have h := bla (Below.refl w.heap.size w) (.cells #[.pointer (some ⟨bf, 0, none⟩), .pointer (some ⟨bf, 1, none⟩), .pointer (some ⟨bc, 0, none⟩)] 90 (0, 0))
  refine (setAll_both _ h (fun x hx => ?_)).trans (HB.out.mono (by simp))
  have hx := (List.of_mem_zip hx).1
  simp only [List.mem_cons, List.not_mem_nil, or_false] at hx
  have := HL.out
  rcases hx with e | e | e <;> rw [e] <;> omega
end
end Go.Proofs.YtndojpcjhkncgaaGreatDoor.Q
end
section
namespace Go.Proofs.YtndojpcjhkncgaaGreatDoor.Q
open Go Go.RowKit Go.Shelf Go.Proofs.YtndojpcjhkncgaaGreatDoorW.PrintWords
section
attribute [local go_sem] Oper.semAt_some
structure OutN (B0 B1 : Nat) (A B : World) : Prop where
  os : B.os = A.os
  tape : B.tape = A.tape
  output : B.output = A.output
  size : A.heap.size ≤ B.heap.size
  same : ∀ k, k < A.heap.size → (k < B0 ∨ B1 ≤ k) → B.heap[k]? = A.heap[k]?
theorem OutR.toN {B0 B1 : Nat} {A B : World} (h : OutR B0 B1 A B) : OutN B0 B1 A B := ⟨h.os, h.tape, h.output, h.size, fun k _ hk => h.same k hk⟩
theorem OutN.of_below {A B : World} (B0 B1 : Nat) (h : Below A.heap.size A B) : OutN B0 B1 A B := ⟨h.os, h.tape, h.output, h.size, fun k hk _ => h.block k hk⟩
theorem store_func (P : Program) (w : World) (a : Addr) (m : Mode) (f : Fn) (ts cs : Array Value) : (store a (.func f ts cs) m).run P w = stored P w a (.func f ts cs) m := run_store P w a _ m rfl
attribute [local go_sem] store_func
theorem bankLines_make (s : ByteArray) (w : World) : Calls Tryz.prog 66 #[.string s] w fun e w' => e = .returned (.func (.func 76) #[] #[.pointer (some ⟨w.heap.size, 0, none⟩)]) ∧ w' = w.alloc (.cells #[.string s] 9 (0, 0)) := by
  go_enter Tryz.func66, Tryz.ntmps66
  go_wp2
  go_ret
  exact ⟨rfl, rfl⟩
theorem flatL_le (ps : List (List UInt8)) : ps.length ≤ (flatL ps).length := by
  induction ps with
  | nil => exact Nat.zero_le _
  | cons p ps ih =>
    unfold flatL at ih ⊢
    rw [List.flatMap_cons, List.length_append, List.length_append, List.length_cons, List.length_singleton]
    omega
theorem flatL_mid (pre rest : List (List UInt8)) (x : List UInt8) : pre.length ≤ (flatL (pre ++ x :: rest)).length ∧ x.length ≤ (flatL (pre ++ x :: rest)).length := by
  have h1 : (flatL (pre ++ x :: rest)).length = (flatL pre).length + (x.length + 1 + (flatL rest).length) := by unfold flatL; rw [List.flatMap_append, List.length_append, List.flatMap_cons, List.length_append, List.length_append]; rfl
  have h2 := flatL_le pre
  omega
theorem allOk_append (ok : List (List UInt8) → List UInt8 → Bool) : ∀ (a p b : List (List UInt8)), allOk ok p (a ++ b) = (allOk ok p a && allOk ok (p ++ a) b)
  | [], p, b => by rw [List.nil_append, List.append_nil]; rfl
  | x :: a, p, b => by rw [List.cons_append, allOk, allOk, allOk_append ok a (p ++ [x]) b, List.append_assoc, Bool.and_assoc]; rfl
def readC (ok : List (List UInt8) → List UInt8 → Bool) (t : List UInt8) : Int :=
  if 1048576 < t.length then 3 else if formB t = true then (if allOk ok [] (linesOf t) = true then (if t.drop (t.length - 22) = endL (t.take (t.length - 22)) then 0 else 361) else 360) else 360
theorem read_out (tmps : Array Value) (W : World) (r : Nat) (c : Int) (h : tmps[6]?.getD undef = .pointer (some ⟨r, 0, none⟩)) (hc : W.cell? ⟨r, 0, none⟩ = some (.int .i64 c)) : (results Tryz.f47 tmps).run Tryz.prog W = .ok (.int .i64 c) W := by
  have h0 : Tryz.f47.results = #[.cell 6 33] := rfl
  have hu := run_underlying Tryz.underlying33 W
  simp only [results, h0]
  simp [h, hc, hu, go_sem, loadVar, asAddr, Sem.run_bind, Result.andThen]
theorem read_leaves {n : Nat} {R : Ending → World → Prop} (tmps : Array Value) (W : World) (r : Nat) (c : Int) (h : tmps[6]?.getD undef = .pointer (some ⟨r, 0, none⟩)) (hc : W.cell? ⟨r, 0, none⟩ = some (.int .i64 c)) (hR : R (.returned (.int .i64 c)) W) :
    bodyPostM Fence.wide n Tryz.prog Tryz.f47 R Exit.ret { tmps := tmps, defers := [] } W := ⟨_, read_out tmps W r c h hc, hR⟩
def retOnly (Q : Exit → Act → World → Prop) : Exit → Act → World → Prop
  | .ret, a, w => Q .ret a w
  | _, _, _ => False
theorem retOnly_to {Q : Exit → Act → World → Prop} (e : Exit) (a : Act) (w : World) (h : retOnly Q e a w) : Q e a w := by
  cases e <;> first | exact h | exact False.elim h
set_option maxHeartbeats 2000000 in
set_option maxRecDepth 100000 in
theorem read_go (n : Nat) (t : List UInt8) (ht : t.length ≤ 4611686018427387904) (w0 w : World) (hG0 : GG w0) (hlow : Below w0.heap.size w0 w) (g1 g2 : Nat) (lb1 lb2 : Array Value)
    (en1 : ∀ args w, (callFunc g1 args).run Tryz.prog w = .ok (.enter g1 args) w) (en2 : ∀ args w, (callFunc g2 args).run Tryz.prog w = .ok (.enter g2 args) w)
    (ok : List (List UInt8) → List UInt8 → Bool) (I : Nat → List (List UInt8) → World → Prop)
    (hI0 : ∀ B1 W, w.heap.size ≤ B1 → Below w.heap.size w W → I B1 [] W) (hIs : ∀ B1 pre A B, I B1 pre A → OutN w.heap.size B1 A B → I B1 pre B) (hIl : ∀ B1 pre W, I B1 pre W → Below w0.heap.size w0 W)
    (hF : ∀ B1 pre x W, w.heap.size ≤ B1 → B1 ≤ W.heap.size → pre.length ≤ 1048576 → x.length ≤ 1048576 → I B1 pre W →
      Calls Tryz.prog (if pre = [] then g1 else g2) (#[.string (Bt x)] ++ (if pre = [] then lb1 else lb2)) W fun e W' => e = .returned (.bool (ok pre x)) ∧ (ok pre x = true → I B1 (pre ++ [x]) W') ∧ (∀ k, w.heap.size ≤ k → k < B1 → W'.heap[k]? = W.heap[k]?) ∧ Below w0.heap.size w0 W' ∧ W.heap.size ≤ W'.heap.size) :
    Calls Tryz.prog 47 #[.string (Bt t), .func (.func g1) #[] lb1, .func (.func g2) #[] lb2] w fun e w' => e = .returned (.int .i64 (readC ok t)) ∧ Below w0.heap.size w0 w' ∧ (readC ok t = 0 → ∃ B1, w.heap.size ≤ B1 ∧ I B1 (linesOf t) w') := by
  refine (callsIn_wide (n := n)).1 (callsIn_of_wp_marks Tryz.func47 rfl trivial (wpIn_mono ?_ retOnly_to) rfl)
  simp only [Tryz.ntmps47, List.size_toArray, List.length_cons, List.length_nil, Nat.reduceAdd, Nat.reduceSub, Array.replicate_succ, Array.replicate_zero, List.push_toArray, List.append_toArray, List.nil_append, List.cons_append]
  obtain ⟨S, hS⟩ : ∃ S, S = Bt t := ⟨_, rfl⟩
  rw [← hS]
  have hsz : S.size = t.length := by rw [hS, Bt_size]
  have hb2 : Below w.heap.size w ((w.alloc (.cells #[.func (.func g2) #[] lb2] 23 (0, 0))).alloc (.cells #[.int .i64 0] 33 (0, 0))) := ((Below.refl _ w).alloc (Nat.le_refl _) _).alloc (by simp) _
  have ho2 : ((w.alloc (.cells #[.func (.func g2) #[] lb2] 23 (0, 0))).alloc (.cells #[.int .i64 0] 33 (0, 0))).heap[w.heap.size]? = some (.cells #[.func (.func g2) #[] lb2] 23 (0, 0)) := blk_alloc (blk_new w _) _
  have hr2 : ((w.alloc (.cells #[.func (.func g2) #[] lb2] 23 (0, 0))).alloc (.cells #[.int .i64 0] 33 (0, 0))).heap[w.heap.size + 1]? = some (.cells #[.int .i64 0] 33 (0, 0)) := by
    have h := blk_new (w.alloc (.cells #[.func (.func g2) #[] lb2] 23 (0, 0))) (.cells #[.int .i64 0] 33 (0, 0))
    rwa [World.size_alloc] at h
  have hs2 : ((w.alloc (.cells #[.func (.func g2) #[] lb2] 23 (0, 0))).alloc (.cells #[.int .i64 0] 33 (0, 0))).heap.size = w.heap.size + 2 := by simp
  have hr2c := bkc hr2 0
  have hr2f := bkf hr2 0
  have HS := Lib.hid hS
  have HB2 := Lib.hid hb2
  have HO2 := Lib.hid ho2
  have HR2 := Lib.hid hr2
  have HI0 := Lib.hid hI0
  have HIS := Lib.hid hIs
  have HIL := Lib.hid hIl
  have HF := Lib.hid hF
  have HG0 := Lib.hid hG0
  have HLow := Lib.hid hlow
  clear hS hb2 ho2 hr2 hI0 hIs hIl hF hG0 hlow
  by_cases hlong : 1048576 < t.length
  · have hC : readC ok t = 3 := by unfold readC; rw [if_pos hlong]
    rw [hC]
    have hd1 : decide ((1048576 : Int) < (S.size : Int)) = true := decide_eq_true (by omega)
    have hd2 : decide (1048576 < S.size) = true := decide_eq_true (by omega)
    clear hsz hC
    gi_wp2
    refine read_leaves _ _ (w.heap.size + 1) 3 rfl (bkc (cs := #[.int .i64 3]) (by rw [← World.size_alloc w (.cells #[.func (.func g2) #[] lb2] 23)]; exact blk_new _ _) 0) ⟨rfl, ?_, fun h => by cases h⟩
    exact HLow.out.trans ((((Below.refl w.heap.size w).alloc (Nat.le_refl _) _).alloc (by simp) _).mono HLow.out.size)
  · have hd1 : decide ((1048576 : Int) < (S.size : Int)) = false := decide_eq_false (by omega)
    have hd2 : decide (1048576 < S.size) = false := decide_eq_false (by omega)
    by_cases h23 : t.length < 23
    · have hC : readC ok t = 360 := by unfold readC formB; rw [if_neg hlong, decide_eq_false (by omega)]; rfl
      rw [hC]
      have hd3 : decide ((S.size : Int) - 22 < 1) = true := decide_eq_true (by omega)
      have hw : wrap64 ((S.size : Int) - 22) = (S.size : Int) - 22 := IntWalk.wrap64_in _ ⟨by omega, by omega⟩
      clear hsz hC
      gi_wp2
      refine ⟨trivial, ?_⟩
      gi_wp2
      refine read_leaves _ _ (w.heap.size + 1) 360 rfl (bkc (cs := #[.int .i64 360]) (by rw [← World.size_alloc w (.cells #[.func (.func g2) #[] lb2] 23)]; exact blk_new _ _) 0) ⟨rfl, ?_, fun h => by cases h⟩
      exact HLow.out.trans ((((Below.refl w.heap.size w).alloc (Nat.le_refl _) _).alloc (by simp) _).mono HLow.out.size)
    · obtain ⟨q, hq⟩ : ∃ q, t.length = q + 23 := ⟨t.length - 23, by omega⟩
      obtain ⟨N, hN⟩ : ∃ N : Int, N = (S.size : Int) := ⟨_, rfl⟩
      have hw : wrap64 ((S.size : Int) - 22) = (q : Int) + 1 := by rw [IntWalk.wrap64_in _ ⟨by omega, by omega⟩]; omega
      have hw2 : wrap64 ((q : Int) + 1 - 1) = (q : Int) := by rw [IntWalk.wrap64_in _ ⟨by omega, by omega⟩]; omega
      have hd3 : decide ((q : Int) + 1 < 1) = false := decide_eq_false (by omega)
      have hx22 : (S.extract (q + 1) S.size).size = 22 := by simp; omega
      have HCl := Lib.hid (closed_go (S.extract (q + 1) S.size) hx22)
      have k1 : q < S.size := by omega
      have k2 : (q : Int) < (S.size : Int) := by omega
      have k3 : (q : Int) + 1 ≤ (S.size : Int) := by omega
      have k4 : q + 1 ≤ S.size := by omega
      have HSZ := Lib.hid hsz
      have HQ := Lib.hid hq
      clear hx22 hsz hq hN hlong h23
      gi_wp2
      refine ⟨trivial, (fun h => by cases h), (callsIn_wide.2 (HCl.out _)).mono ?_⟩
      rintro e w3 ⟨rfl, hb3⟩
      have hb3' := below_then HB2.out (by rw [hs2]; omega) hb3
      have ho3 := (hb3.block w.heap.size (by rw [hs2]; omega)).trans HO2.out
      have hr3 := (hb3.block (w.heap.size + 1) (by rw [hs2]; omega)).trans HR2.out
      have hs3 : w.heap.size + 2 ≤ w3.heap.size := by have := hb3.size; rw [hs2] at this; exact this
      have hr3c : w3.cell? ⟨w.heap.size + 1, 0, none⟩ = some (.int .i64 0) := bkc hr3 0
      have hr3f : w3.frozen? ⟨w.heap.size + 1, 0, none⟩ = false := bkf hr3 0
      obtain ⟨cl, hcl⟩ : ∃ cl, cl = closedF (S.extract (q + 1) S.size).data.toList := ⟨_, rfl⟩
      rw [← hcl]
      have HCL := Lib.hid (show cl = closedF (t.drop (t.length - 22)) by
        rw [hcl]
        congr 1
        have h1 := HQ.out
        have h2 := HSZ.out
        rw [h2, HS.out, show t.length - 22 = q + 1 by omega]
        have h3 : List.take (t.length - (q + 1)) (List.drop (q + 1) t) = List.drop (q + 1) t := List.take_of_length_le (by rw [List.length_drop]; omega)
        simp [ByteArray.data_extract, List.extract, Bt, h3])
      have HB3 := Lib.hid hb3'
      have HO3 := Lib.hid ho3
      have HR3 := Lib.hid hr3
      clear hr2c hr2f hb3 hb3' ho3 hr3 hcl HB2 HO2 HR2 hs2 HCl
      cases cl with
      | false =>
        gi_wp2
        have hC : readC ok t = 360 := by
          unfold readC formB
          rw [← HCL.out]
          split
          · have := HQ.out
            have := HSZ.out
            have := of_decide_eq_false hd2
            omega
          · simp
        refine read_leaves _ _ (w.heap.size + 1) 360 rfl (bkc (blk_put HR3.out 0 (.int .i64 360) rfl) 0) ⟨by rw [hC], ?_, fun h => by rw [hC] at h; cases h⟩
        exact (HLow.out.trans (HB3.out.mono HLow.out.size)).setCell (p := ⟨w.heap.size + 1, 0, none⟩) (by have := HLow.out.size; show w0.heap.size ≤ w.heap.size + 1; omega) _
      | true =>
        have k0 : (0 : Int) ≤ (q : Int) := by omega
        have hwq : wrap64 (q : Int) = (q : Int) := by have := HQ.out; exact IntWalk.wrap64_in _ ⟨by omega, by omega⟩
        have hby : decide (t[q]? = some 10) = !(((S[q]'k1).toNat : Int) != 10) := by
          have h := byte_at S q k1 10
          have hd : S.data.toList = t := by rw [HS.out]; unfold Bt; simp
          rw [hd] at h
          rw [h]
          show _ = !(!(((S[q]'k1).toNat : Int) == 10))
          rw [Bool.not_not, Bool.eq_iff_iff, decide_eq_true_iff, beq_iff_eq]
          rfl
        obtain ⟨b10, h10⟩ : ∃ b, (((S[q]'k1).toNat : Int) != 10) = b := ⟨_, rfl⟩
        rw [h10] at hby
        have HBY := Lib.hid hby
        clear hby
        cases b10 with
        | true =>
          gi_wp2
          have hC : readC ok t = 360 := by
            have h1 := HQ.out
            unfold readC formB
            rw [show t.length - 23 = q by omega, HBY.out]
            split
            · have := HSZ.out
              have := of_decide_eq_false hd2
              omega
            · simp
          refine read_leaves _ _ (w.heap.size + 1) 360 rfl (bkc (blk_put HR3.out 0 (.int .i64 360) rfl) 0) ⟨by rw [hC], ?_, fun h => by rw [hC] at h; cases h⟩
          exact (HLow.out.trans (HB3.out.mono HLow.out.size)).setCell (p := ⟨w.heap.size + 1, 0, none⟩) (by have := HLow.out.size; show w0.heap.size ≤ w.heap.size + 1; omega) _
        | false =>
          have hnc : (w3.alloc (.cells #[.nilFunc] 23 (0, 0))).cell? ⟨w3.heap.size, 0, none⟩ = some .nilFunc := bkc (blk_new w3 _) 0
          have hnf : (w3.alloc (.cells #[.nilFunc] 23 (0, 0))).frozen? ⟨w3.heap.size, 0, none⟩ = false := bkf (blk_new w3 _) 0
          gi_wp2
          refine ⟨trivial, (fun h => by cases h), (callsIn_wide.2 (bankLines_make _ _)).mono ?_⟩
          rintro e w5 ⟨rfl, hw5⟩
          obtain ⟨H, hH⟩ : ∃ H, H = w3.heap.size := ⟨_, rfl⟩
          have hfl : flatL (linesOf t) = t.take (q + 1) := by
            have h1 := HQ.out
            have h2 : t[q]? = some 10 := of_decide_eq_true (by rw [HBY.out]; rfl)
            unfold flatL linesOf
            rw [words_flat, show t.length - 23 = q by omega, List.take_add_one, h2]
            rfl
          have hex : S.extract 0 (q + 1) = Bt (flatL (linesOf t)) := by
            rw [hfl, HS.out]
            unfold Bt
            apply ByteArray.ext
            simp [ByteArray.data_extract, List.extract]
          have hb5 : Below w3.heap.size w3 w5 := by rw [hw5]; exact ((Below.refl _ w3).alloc (Nat.le_refl _) _).alloc (by simp) _
          have hh5 : w5.heap[H]? = some (.cells #[.func (.func g1) #[] lb1] 23 (0, 0)) := by rw [hw5, hH]; exact blk_alloc (blk_new w3 _) _
          have ht5 : w5.heap[H + 1]? = some (.cells #[.string (Bt (flatL (linesOf t)))] 9 (0, 0)) := by
            have h := blk_new (w3.alloc (.cells #[.func (.func g1) #[] lb1] 23 (0, 0))) (.cells #[.string (S.extract 0 (q + 1))] 9 (0, 0))
            rw [World.size_alloc, ← hH, ← hw5, hex] at h
            exact h
          have hs5 : w5.heap.size = H + 2 := by rw [hw5, hH]; simp
          have hsz5 : (w3.alloc (.cells #[.func (.func g1) #[] lb1] 23 (0, 0))).heap.size = H + 1 := by rw [hH]; simp
          rw [hsz5]
          have HB5 := Lib.hid (below_then HB3.out (HB3.out.size) hb5)
          have HO5 := Lib.hid ((hb5.block _ (by omega)).trans HO3.out)
          have HR5 := Lib.hid ((hb5.block _ (by omega)).trans HR3.out)
          have HH5 := Lib.hid hh5
          have HT5 := Lib.hid ht5
          have HS5 := Lib.hid hs5
          have HH := Lib.hid hH
          have HFL := Lib.hid hfl
          have hHge : w.heap.size + 2 ≤ H := by omega
          clear hw5 hb5 hh5 ht5 hs5 hsz5 hex hfl hr3c hr3f HO3 HR3 hnc hnf hH
          gi_wp2
          refine range_law (gf := 76) (lb := #[.pointer (some ⟨H + 1, 0, none⟩)]) rfl (enters_of Tryz.func76 (by kernel_rfl) rfl) (fun x : List UInt8 => #[.string (Bt x)]) (fun _ => rfl)
            (fun pre x => ∃ rest, linesOf t = pre ++ x :: rest) (fun xs => xs = linesOf t) (fun W1 => H + 8 ≤ W1.heap.size)
            (fun A B => OutR (H + 4) (H + 8) A B) (fun A B => A.heap.size ≤ B.heap.size ∧ ∀ k, H + 4 ≤ k → k < H + 8 → B.heap[k]? = A.heap[k]?)
            ?seq ?St ?Kt ?Kr ?Ex
            (fun pre W1 => I (H + 8) pre W1 ∧ allOk ok [] pre = true ∧ W1.heap[w.heap.size]? = some (.cells #[.func (.func g2) #[] lb2] 23 (0, 0)) ∧ W1.heap[w.heap.size + 1]? = some (.cells #[.int .i64 0] 33 (0, 0)) ∧ W1.heap[H]? = some (.cells #[if pre = [] then .func (.func g1) #[] lb1 else .func (.func g2) #[] lb2] 23 (0, 0)))
            (fun _ W1 => allOk ok [] (linesOf t) = false ∧ Below w0.heap.size w0 W1 ∧ W1.heap[w.heap.size + 1]? = some (.cells #[.int .i64 360] 33 (0, 0)))
            ?I0 ?Is ?Xs ?Ir ?Xr ?a1 ?assign ?body ?done ?stop
          case assign =>
            intro x W K hK
            gi_wp2
            exact hK
          case seq =>
            intro J Jx W1 hlow1 hsz1 hst hstx hy h0
            rw [HS5.out] at hsz1 hy
            have e1 : W1.heap.size = H + 4 := by omega
            refine (bankLines1_in (n - 1) (w5.heap.size + 1) (H + 1) (linesOf t) (fun p hp => words_no 10 _ p hp) (by rw [HFL.out, List.length_take]; omega) W1 J Jx (fun pre A B h ho => hst pre A B h (by rw [e1] at ho; exact ho)) ?_ (fun pre A B h ho => hstx pre A B h (by rw [e1] at ho; exact ho)) (blk_below HT5.out hlow1) h0).mono ?_
            · intro pre x rest W2 hp hj hsz2
              rw [e1] at hsz2
              rw [HS5.out]
              refine yield_any (YieldAt.mono (hy pre x W2 ⟨rest, hp⟩ hj hsz2) ?_)
              rintro e W' (⟨rfl, h1, h2, h3⟩ | ⟨rfl, h1, h2, h3⟩)
              · exact .inl ⟨rfl, h1, h2, by rw [e1]; exact h3⟩
              · exact .inr ⟨rfl, h1, by rw [e1]; exact h3⟩
            · rintro e W' ⟨hv, hj | hx⟩
              · exact ⟨hv, .inl ⟨_, rfl, hj⟩⟩
              · exact ⟨hv, .inr hx⟩
          case St =>
            intro A B h k hk
            rw [HS5.out] at hk
            exact h.same k (by omega)
          case Kt =>
            rintro A B C ⟨h1, h2⟩ ⟨h3, h4⟩
            exact ⟨Nat.le_trans h1 h3, fun k ha hb => (h4 k ha hb).trans (h2 k ha hb)⟩
          case Kr =>
            intro W1 o
            exact ⟨by simp, fun k ha hb => World.putObj_heap_other (by rw [HS5.out]; omega)⟩
          case Ex =>
            intro W1 o h
            simpa using h
          case I0 =>
            intro W1 hlow1 hsz1
            have hb := below_then HB5.out (by have := HS5.out; omega) hlow1
            refine ⟨HI0.out _ _ (by omega) hb, rfl, blk_below HO5.out hlow1, blk_below HR5.out hlow1, ?_⟩
            rw [if_pos rfl]
            exact blk_below HH5.out hlow1
          case Is =>
            rintro pre A B ⟨h1, h2, h3, h4, h5⟩ hs
            exact ⟨HIS.out _ _ _ _ h1 ⟨hs.os, hs.tape, hs.output, hs.size, fun k _ hk => hs.same k (by omega)⟩, h2, (hs.same _ (by omega)).trans h3, (hs.same _ (by omega)).trans h4, (hs.same _ (by omega)).trans h5⟩
          case Xs =>
            rintro pre A B ⟨h1, h2, h3⟩ hs
            have hw := HLow.out.size
            exact ⟨h1, h2.trans ⟨hs.os, hs.tape, hs.output, hs.size, fun k hk => hs.same k (by omega)⟩, (hs.same _ (by omega)).trans h3⟩
          case Ir =>
            rintro pre W1 o ⟨h1, h2, h3, h4, h5⟩
            have e := HS5.out
            exact ⟨HIS.out _ _ _ _ h1 (OutR.put _ _ _ _ _ (by omega) (by omega)).toN, h2, (World.putObj_heap_other (by omega)).trans h3, (World.putObj_heap_other (by omega)).trans h4, (World.putObj_heap_other (by omega)).trans h5⟩
          case Xr =>
            rintro pre W1 o ⟨h1, h2, h3⟩
            have e := HS5.out
            have hw := HLow.out.size
            exact ⟨h1, h2.trans ⟨rfl, rfl, rfl, by simp, fun k hk => World.putObj_heap_other (by omega)⟩, (World.putObj_heap_other (by omega)).trans h3⟩
          case body =>
            rintro pre x W1 ⟨rest, hp⟩ ⟨h1, h2, h3, h4, h5⟩ hsz1 hlt1
            have e5 := HS5.out
            have hwl := HLow.out.size
            obtain ⟨hpl, hxl⟩ := flatL_mid pre rest x
            rw [← hp, HFL.out, List.length_take] at hpl hxl
            have h48 := of_decide_eq_false hd2
            have hlt2 : t.length ≤ 1048576 := by have := HSZ.out; omega
            have hCl := HF.out (H + 8) pre x W1 (by omega) hsz1 (by omega) (by omega) h1
            obtain ⟨g, hg⟩ : ∃ g, g = if pre = [] then g1 else g2 := ⟨_, rfl⟩
            obtain ⟨lb, hlb⟩ : ∃ lb, lb = if pre = [] then lb1 else lb2 := ⟨_, rfl⟩
            have heng : ∀ args w, (callFunc g args).run Tryz.prog w = .ok (.enter g args) w := by rw [hg]; split; exact en1; exact en2
            have hfv : (if pre = [] then Value.func (.func g1) #[] lb1 else .func (.func g2) #[] lb2) = .func (.func g) #[] lb := by rw [hg, hlb]; split <;> rfl
            rw [hfv] at h5
            rw [← hg, ← hlb] at hCl
            have c8 : W1.cell? ⟨w3.heap.size, 0, none⟩ = some (.func (.func g) #[] lb) := by rw [← HH.out]; exact bkc h5 0
            have HCall := Lib.hid hCl
            have HW := Lib.hid (And.intro h2 (And.intro h3 (And.intro h4 h5)))
            have HP := Lib.hid hp
            have HE5 := Lib.hid e5
            have HB := Lib.hid (And.intro hwl (And.intro hsz1 (And.intro hlt1 hHge)))
            clear hCl h1 h2 h3 h4 h5 hp e5 hwl hsz1 hlt1 hHge hpl hxl h48 hlt2 hg hlb hfv en1 en2
            gi_wp2
            refine ⟨trivial, (fun h => by cases h), (CallsIn.inRound _ (callsIn_wide.2 HCall.out)).mono ?_⟩
            rintro e W2 ⟨rfl, hi2, hk2, hl2, hs2⟩
            have hB := HB.out
            have hr2 := (hk2 (w.heap.size + 1) (by omega) (by omega)).trans HW.out.2.2.1
            have ho2 := (hk2 w.heap.size (Nat.le_refl _) (by omega)).trans HW.out.2.1
            have hh2 := (hk2 H (by omega) (by omega)).trans HW.out.2.2.2
            have cr2 : W2.cell? ⟨w.heap.size + 1, 0, none⟩ = some (.int .i64 0) := bkc hr2 0
            have fr2 : W2.frozen? ⟨w.heap.size + 1, 0, none⟩ = false := bkf hr2 0
            have co2 : W2.cell? ⟨w.heap.size, 0, none⟩ = some (.func (.func g2) #[] lb2) := bkc ho2 0
            have ch2 : W2.cell? ⟨w3.heap.size, 0, none⟩ = some (.func (.func g) #[] lb) := by rw [← HH.out]; exact bkc hh2 0
            have fh2 : W2.frozen? ⟨w3.heap.size, 0, none⟩ = false := by rw [← HH.out]; exact bkf hh2 0
            have HR2 := Lib.hid hr2
            have HO2 := Lib.hid ho2
            have HH2 := Lib.hid hh2
            have HI2 := Lib.hid hi2
            have HK2 := Lib.hid hk2
            have HL2 := Lib.hid (And.intro hl2 hs2)
            obtain ⟨b1, hb1⟩ : ∃ b, b = ok pre x := ⟨_, rfl⟩
            rw [← hb1]
            have HB1 := Lib.hid hb1
            clear hr2 ho2 hh2 hi2 hk2 hl2 hs2 hB hb1 c8 heng
            cases b1 with
            | false =>
              gi_wp2
              have hB := HB.out
              have hE := HE5.out
              refine ⟨fun k hk => (Below.heap_setCell _ _ _ _ (by show k ≠ w.heap.size + 1; omega)).trans (HK2.out k (by omega) (by omega)), ⟨by simpa [World.setCell] using HL2.out.2, fun k ha hb => (Below.heap_setCell _ _ _ _ (by show k ≠ w.heap.size + 1; omega)).trans (HK2.out k (by omega) (by omega))⟩, ?_, ?_, blk_put HR2.out 0 (.int .i64 360) rfl⟩
              · rw [HP.out, allOk_append, HW.out.1, List.nil_append, allOk, ← HB1.out]
                rfl
              · exact HL2.out.1.setCell (p := ⟨w.heap.size + 1, 0, none⟩) (by show w0.heap.size ≤ w.heap.size + 1; omega) _
            | true =>
              gi_wp2
              have hB := HB.out
              have hE := HE5.out
              have hHH := HH.out
              rw [← HH.out]
              have hset : ∀ k, k ≠ H → (W2.setCell ⟨H, 0, none⟩ (.func (.func g2) #[] lb2)).heap[k]? = W2.heap[k]? := fun k hk => Below.heap_setCell _ _ _ _ hk
              refine ⟨fun k hk => (hset k (by omega)).trans (HK2.out k (by omega) (by omega)), ⟨by simpa [World.setCell] using HL2.out.2, fun k ha hb => (hset k (by omega)).trans (HK2.out k (by omega) (by omega))⟩, ?_, ?_, (hset _ (by omega)).trans HO2.out, (hset _ (by omega)).trans HR2.out, ?_⟩
              · exact HIS.out _ _ _ _ (HI2.out HB1.out.symm) (OutR.set _ _ _ _ _ _ (by omega) (by omega)).toN
              · rw [allOk_append, HW.out.1, List.nil_append, allOk, ← HB1.out]
                rfl
              · rw [if_neg (by simp)]
                exact blk_put HH2.out 0 _ rfl
          case done =>
            rintro xs W1 rfl ⟨h1, h2, h3, h4, h5⟩ hK
            have hxs : S.extract 0 (q + 1) = B (t.take (q + 1)) := by
              rw [HS.out]
              unfold Bt B
              apply ByteArray.ext
              simp [ByteArray.data_extract, List.extract]
            have hzs : (S.extract (q + 1) S.size).toList = t.drop (t.length - 22) := by
              have h1 := HQ.out
              rw [HS.out, Bt_size, show t.length - 22 = q + 1 by omega, ByteArray.toList_eq]
              have h3 : List.take (t.length - (q + 1)) (List.drop (q + 1) t) = List.drop (q + 1) t := List.take_of_length_le (by rw [List.length_drop]; omega)
              simp [ByteArray.data_extract, List.extract, Bt, h3]
            have hlt2 : t.length ≤ 1048576 := by have := HSZ.out; have := of_decide_eq_false hd2; omega
            obtain ⟨kk, hkk⟩ := bankEnd_ev (t.take (q + 1)) (by rw [List.length_take]; omega)
            obtain ⟨eq, heq⟩ : ∃ eq, eq = decide (t.drop (t.length - 22) = endL (t.take (t.length - 22))) := ⟨_, rfl⟩
            have hEnd : ∀ W', GG W' → Calls Tryz.prog 64 #[.string (S.extract 0 (q + 1))] W' fun e w' => ∃ y : ByteArray, e = .returned (.string y) ∧ ((S.extract (q + 1) S.size).toList == y.toList) = eq ∧ Below W'.heap.size W' w' := fun W' hG' => by
              rw [hxs]
              refine (bank_end.calls kk _ _ W' hG' (hkk kk (Nat.le_refl _))).mono ?_
              rintro e w' ⟨rfl, hb⟩
              refine ⟨_, rfl, ?_, hb⟩
              have h1 := HQ.out
              rw [hzs, B_list, heq, show t.length - 22 = q + 1 by omega, Bool.eq_iff_iff, beq_iff_eq, decide_eq_true_iff]
            have hC : readC ok t = if eq = true then 0 else 361 := by
              have h1 := HQ.out
              unfold readC
              rw [if_neg (by omega), if_pos (by unfold formB; rw [← HCL.out, show t.length - 23 = q by omega, HBY.out]; simp; omega), if_pos h2, heq]
              by_cases hh : t.drop (t.length - 22) = endL (t.take (t.length - 22))
              · rw [if_pos hh, decide_eq_true hh, if_pos rfl]
              · rw [if_neg hh, decide_eq_false hh, if_neg (by simp)]
            have HEnd := Lib.hid hEnd
            have HC := Lib.hid hC
            have HW := Lib.hid (And.intro h1 (And.intro h4 hK))
            have HGW := Lib.hid (HG0.out.below (HIL.out _ _ _ h1))
            have k5 : (0 : Int) ≤ (q : Int) + 1 := by omega
            have hw1l := Array.getElem?_eq_some_iff.1 hK |>.1
            have hr1c : W1.drew.cell? ⟨w.heap.size + 1, 0, none⟩ = some (.int .i64 0) := bkc (blk_drew h4) 0
            clear hxs hzs hkk heq hEnd hC h1 h2 h3 h4 h5 hK hlt2
            gi_wp2
            gi_region_with (first | (refine ⟨trivial, (fun h => by cases h), ?_⟩; gi_at_call 64; refine (callsIn_wide.2 (HEnd.out _ (HGW.out.below (below_drew (Below.refl _ _))))).mono ?_; rintro e w' ⟨y, rfl, hy, hb⟩))
            all_goals
              have hb' := (below_drew (Below.refl W1.heap.size W1)).trans hb
              have hr2 := (hb'.block _ (by have := HH.out; have := HS5.out; omega)).trans HW.out.2.1
              have hk2 := (hb'.block _ hw1l).trans HW.out.2.2
              have cr2 : w'.cell? ⟨w.heap.size + 1, 0, none⟩ = some (.int .i64 0) := bkc hr2 0
              have fr2 : w'.frozen? ⟨w.heap.size + 1, 0, none⟩ = false := bkf hr2 0
              have HI2 := Lib.hid (HIS.out _ _ _ _ HW.out.1 (OutN.of_below w.heap.size (H + 8) hb'))
              have HR2 := Lib.hid hr2
              have HK2 := Lib.hid hk2
              clear hb hb' hr2 hk2 hr1c
              cases eq with
              | false =>
                gi_wp2
                have hwl := HLow.out.size
                have e5 := HS5.out
                have hC : readC ok t = 361 := HC.out
                refine ⟨by simp, .inl ⟨_, _, rfl, run_takeDeferred ((Below.heap_setCell _ _ _ _ (by show w5.heap.size ≠ w.heap.size + 1; omega)).trans HK2.out), ?_⟩⟩
                refine ⟨_, read_out _ _ (w.heap.size + 1) 361 rfl (bkc ((World.putObj_heap_other (by omega)).trans (blk_put HR2.out 0 (.int .i64 361) rfl)) 0), by rw [hC], ?_, fun h => by rw [hC] at h; cases h⟩
                exact ((HIL.out _ _ _ HI2.out).setCell (p := ⟨w.heap.size + 1, 0, none⟩) (by show w0.heap.size ≤ w.heap.size + 1; omega) _).trans ⟨rfl, rfl, rfl, by simp, fun k hk => World.putObj_heap_other (by omega)⟩
              | true =>
                gi_wp2
                have hwl := HLow.out.size
                have e5 := HS5.out
                have hC : readC ok t = 0 := HC.out
                refine ⟨by simp, .inl ⟨_, _, rfl, run_takeDeferred ((Below.heap_setCell _ _ _ _ (by show w5.heap.size ≠ w.heap.size + 1; omega)).trans HK2.out), ?_⟩⟩
                refine ⟨_, read_out _ _ (w.heap.size + 1) 0 rfl (bkc ((World.putObj_heap_other (by omega)).trans (blk_put HR2.out 0 (.int .i64 0) rfl)) 0), by rw [hC], ?_, fun _ => ⟨H + 8, by omega, ?_⟩⟩
                · exact ((HIL.out _ _ _ HI2.out).setCell (p := ⟨w.heap.size + 1, 0, none⟩) (by show w0.heap.size ≤ w.heap.size + 1; omega) _).trans ⟨rfl, rfl, rfl, by simp, fun k hk => World.putObj_heap_other (by omega)⟩
                · exact HIS.out _ _ _ _ (HIS.out _ _ _ _ HI2.out (OutR.set _ _ _ _ _ _ (by omega) (by omega)).toN) (OutR.put _ _ _ _ _ (by omega) (by omega)).toN
          case stop =>
            rintro pre W1 ⟨h1, h2, h3⟩ hK
            gi_wp2
            have hwl := HLow.out.size
            have e5 := HS5.out
            have hC : readC ok t = 360 := by
              unfold readC
              rw [h1]
              split
              · have := HSZ.out
                have := of_decide_eq_false hd2
                omega
              · simp
            refine ⟨by simp, .inl ⟨_, _, rfl, run_takeDeferred hK, ?_⟩⟩
            refine ⟨_, read_out _ _ (w.heap.size + 1) 360 rfl (bkc ((World.putObj_heap_other (by omega)).trans h3) 0), by rw [hC], ?_, fun h => by rw [hC] at h; cases h⟩
            exact h2.trans ⟨rfl, rfl, rfl, by simp, fun k hk => World.putObj_heap_other (by omega)⟩
end
end Go.Proofs.YtndojpcjhkncgaaGreatDoor.Q
end
section
namespace Go.Proofs.YtndojpcjhkncgaaGreatDoor.Q
open Go
section
def sA : List UInt8 → Nat
  | [] => 0
  | c :: l => c.toNat + sA l
def sW : Nat → List UInt8 → Nat
  | _, [] => 0
  | i, c :: l => (i + 1) * c.toNat + sW (i + 1) l
theorem sums_eq : ∀ (l : List UInt8) (i a w : Nat), a < 4294967296 → w < 4294967296 → sums i a w l = ((a + sA l) % 4294967296, (w + sW i l) % 4294967296)
  | [], i, a, w, ha, hw => by
    unfold sums sA sW
    rw [Nat.add_zero, Nat.add_zero, Nat.mod_eq_of_lt ha, Nat.mod_eq_of_lt hw]
  | c :: l, i, a, w, ha, hw => by
    unfold sums sA sW
    rw [sums_eq l (i + 1) _ _ (Nat.mod_lt _ (by omega)) (Nat.mod_lt _ (by omega)), Nat.mod_add_mod, Nat.mod_add_mod, Nat.add_assoc, Nat.add_assoc]
theorem sums0 (l : List UInt8) : sums 0 0 0 l = (sA l % 4294967296, sW 0 l % 4294967296) := by
  rw [sums_eq l 0 0 0 (by omega) (by omega), Nat.zero_add, Nat.zero_add]
theorem end_fields (l : List UInt8) : ((endL l).drop 4).take 8 = hex8 (sA l % 4294967296) ∧ ((endL l).drop 13).take 8 = hex8 (sW 0 l % 4294967296) ∧ (endL l)[0]? = some 69 := by
  have h1 := hex8_len (sA l % 4294967296) (Nat.mod_lt _ (by omega))
  have h2 := hex8_len (sW 0 l % 4294967296) (Nat.mod_lt _ (by omega))
  unfold endL
  rw [sums0]
  show ((([69, 78, 68, 32] ++ hex8 (sA l % 4294967296) ++ [32] ++ hex8 (sW 0 l % 4294967296) ++ [10]).drop 4).take 8 = _) ∧ ((([69, 78, 68, 32] ++ hex8 (sA l % 4294967296) ++ [32] ++ hex8 (sW 0 l % 4294967296) ++ [10]).drop 13).take 8 = _) ∧ _
  generalize hex8 (sA l % 4294967296) = x at h1 ⊢
  generalize hex8 (sW 0 l % 4294967296) = y at h2 ⊢
  refine ⟨?_, ?_, rfl⟩
  · have e : (([69, 78, 68, 32] : List UInt8) ++ (x ++ ([32] ++ y ++ [10]))).drop 4 = x ++ ([32] ++ y ++ [10]) := List.drop_left' rfl
    rw [show [69, 78, 68, 32] ++ x ++ [32] ++ y ++ [10] = [69, 78, 68, 32] ++ (x ++ ([32] ++ y ++ [10])) by simp, e, List.take_left' h1]
  · have e : ((([69, 78, 68, 32] : List UInt8) ++ x ++ [32]) ++ (y ++ [10])).drop 13 = y ++ [10] := List.drop_left' (by simp [h1])
    rw [show [69, 78, 68, 32] ++ x ++ [32] ++ y ++ [10] = ([69, 78, 68, 32] ++ x ++ [32]) ++ (y ++ [10]) by simp, e, List.take_left' h2]
end
end Go.Proofs.YtndojpcjhkncgaaGreatDoor.Q
end
section
namespace Go.Proofs.YtndojpcjhkncgaaGreatDoor.Q
open Go Go.RowKit Go.Proofs.YtndojpcjhkncgaaGreatDoorW.PrintWords
section
theorem readC_zero (ok : List (List UInt8) → List UInt8 → Bool) (t : List UInt8) : readC ok t = 0 ↔ t.length ≤ 1048576 ∧ formB t = true ∧ allOk ok [] (linesOf t) = true ∧ t.drop (t.length - 22) = endL (t.take (t.length - 22)) := by
  unfold readC
  constructor
  · intro h
    split at h
    · cases h
    · split at h
      · split at h
        · split at h
          · exact ⟨by omega, by assumption, by assumption, by assumption⟩
          · cases h
        · cases h
      · cases h
  · rintro ⟨h1, h2, h3, h4⟩
    rw [if_neg (by omega), if_pos h2, if_pos h3, if_pos h4]
theorem form_parts {t : List UInt8} (h : formB t = true) : 23 ≤ t.length ∧ closedF (t.drop (t.length - 22)) = true ∧ t[t.length - 23]? = some 10 := by
  unfold formB at h
  simp only [Bool.and_eq_true, decide_eq_true_iff] at h
  exact ⟨h.1, h.2.1, h.2.2⟩
theorem head_lines {t : List UInt8} (h : formB t = true) : t.take (t.length - 22) = flatL (linesOf t) := by
  obtain ⟨h1, _, h3⟩ := form_parts h
  unfold flatL linesOf
  rw [words_flat, show t.length - 22 = (t.length - 23) + 1 by omega, List.take_add_one, h3]
  rfl
theorem flatL_cons (l : List UInt8) (ls : List (List UInt8)) : flatL (l :: ls) = l ++ [10] ++ flatL ls := by unfold flatL; rw [List.flatMap_cons]
theorem scans_text (w : List UInt8) (hw : (32 : UInt8) ∉ w) (m : Nat) : ∀ (ls : List (List UInt8)) (rs : List (List Int)), scansF w m ls = some rs → flatL ls = rs.flatMap (lineL w) ∧ ∀ r ∈ rs, r.length = m ∧ ∀ n ∈ r, numIn n = true
  | [], rs, h => by
    cases h
    exact ⟨rfl, fun r hr => by cases hr⟩
  | l :: ls, rs, h => by
    rw [scansF] at h
    cases h1 : scanF l w m with
    | none => rw [h1] at h; cases h
    | some a =>
      cases h2 : scansF w m ls with
      | none => rw [h1, h2] at h; cases h
      | some s =>
        rw [h1, h2] at h
        cases h
        obtain ⟨e1, e2, e3⟩ := (scanF_iff l w hw m a).mp h1
        obtain ⟨e4, e5⟩ := scans_text w hw m ls s h2
        refine ⟨?_, fun r hr => ?_⟩
        · rw [flatL_cons, List.flatMap_cons, e4, e1]
          rfl
        · rcases List.mem_cons.mp hr with rfl | hr
          · exact ⟨e2, e3⟩
          · exact e5 r hr
theorem read_text (w1 w2 : List UInt8) (hw1 : (32 : UInt8) ∉ w1) (hw2 : (32 : UInt8) ∉ w2) (m1 m2 : Nat) (t : List UInt8) (h : readC (lineOk w1 m1 w2 m2) t = 0) :
    ∃ l ls a rs, linesOf t = l :: ls ∧ scanF l w1 m1 = some a ∧ scansF w2 m2 ls = some rs ∧ t = (lineL w1 a ++ rs.flatMap (lineL w2)) ++ endL (lineL w1 a ++ rs.flatMap (lineL w2)) ∧ a.length = m1 ∧ (∀ n ∈ a, numIn n = true) ∧ (∀ r ∈ rs, r.length = m2 ∧ ∀ n ∈ r, numIn n = true) ∧ t.length ≤ 1048576 := by
  obtain ⟨h1, h2, h3, h4⟩ := (readC_zero _ t).mp h
  obtain ⟨l, ls, hl⟩ : ∃ l ls, linesOf t = l :: ls := words_ne 10 _
  rw [hl, allOk_rows, rowsF] at h3
  cases e1 : scanF l w1 m1 with
  | none => rw [e1] at h3; cases h3
  | some a =>
    cases e2 : scansF w2 m2 ls with
    | none => rw [e1, e2] at h3; cases h3
    | some rs =>
      obtain ⟨p1, p2, p3⟩ := (scanF_iff l w1 hw1 m1 a).mp e1
      obtain ⟨p4, p5⟩ := scans_text w2 hw2 m2 ls rs e2
      refine ⟨l, ls, a, rs, hl, e1, e2, ?_, p2, p3, p5, h1⟩
      have hh : t.take (t.length - 22) = lineL w1 a ++ rs.flatMap (lineL w2) := by
        rw [head_lines h2, hl, flatL_cons, p4, p1]
        rfl
      rw [← hh, ← h4, List.take_append_drop]
theorem hex_all : ∀ (j n : Nat), (hexR j n).all hexB = true
  | 0, _ => rfl
  | j + 1, n => by
    rw [hexR, List.all_append, hex_all j]
    have h : ∀ k : Fin 16, hexB (dig k.val) = true := by decide
    have := h ⟨n % 16, Nat.mod_lt _ (by omega)⟩
    simpa using this
theorem closed_end (l : List UInt8) : closedF (endL l) = true := by
  have h1 := hex8_len (sA l % 4294967296) (Nat.mod_lt _ (by omega))
  have h2 := hex8_len (sW 0 l % 4294967296) (Nat.mod_lt _ (by omega))
  have a1 := hex_all 8 (sA l % 4294967296)
  have a2 := hex_all 8 (sW 0 l % 4294967296)
  rw [hexR_8 _ (Nat.mod_lt _ (by omega))] at a1 a2
  obtain ⟨f1, f2, _⟩ := end_fields l
  have he : endL l = [69, 78, 68, 32] ++ hex8 (sA l % 4294967296) ++ [32] ++ hex8 (sW 0 l % 4294967296) ++ [10] := by unfold endL; rw [sums0]
  have e12 : (endL l)[12]? = some 32 := by
    rw [he, List.getElem?_append_left (by simp [h1, h2]), List.getElem?_append_left (by simp [h1]), List.getElem?_append_right (by simp [h1])]
    simp [h1]
  have e21 : (endL l)[21]? = some 10 := by
    rw [he, List.getElem?_append_right (by simp [h1, h2])]
    simp [h1, h2]
  have e4 : (endL l).take 4 = [69, 78, 68, 32] := by rw [he]; rfl
  unfold closedF
  rw [e4, e12, e21, f1, f2, List.all_append, a1, a2]
  rfl
theorem words_of_flat (w : List UInt8) (ws : List (List UInt8)) (x : List UInt8) (hw : (10 : UInt8) ∉ w) (hws : ∀ y ∈ ws, (10 : UInt8) ∉ y) (h : flatL (w :: ws) = x ++ [10]) : wordsL 10 x = w :: ws := by
  have gen : ∀ (t : List (List UInt8)) (a : List UInt8), flatL (a :: t) = a ++ t.flatMap (fun x => 10 :: x) ++ [10] := by
    intro t
    induction t with
    | nil => intro a; simp [flatL]
    | cons b t ih =>
      intro a
      rw [flatL_cons, ih b, List.flatMap_cons]
      simp
  rw [gen ws w] at h
  have hx := (List.append_inj' h rfl).1
  rw [← hx]
  exact words_joined 10 ws w hw hws
theorem numsL_no (c : UInt8) (ns : List Int) (h : c ≠ 45) (h32 : c ≠ 32) (h2 : c.toNat < 48 ∨ 57 < c.toNat) : c ∉ numsL ns := by
  intro hm
  unfold numsL at hm
  obtain ⟨n, _, hn⟩ := List.mem_flatMap.mp hm
  rcases List.mem_cons.mp hn with e | e
  · exact h32 e
  · exact itoa_no c n h h2 e
theorem flat_lines (w1 w2 : List UInt8) (a : List Int) (rs : List (List Int)) : lineL w1 a ++ rs.flatMap (lineL w2) = flatL ((w1 ++ numsL a) :: rs.map (fun r => w2 ++ numsL r)) := by
  rw [flatL_cons]
  unfold flatL
  rw [List.flatMap_map]
  rfl
theorem text_lines (w1 w2 : List UInt8) (hw1 : (10 : UInt8) ∉ w1) (hw2 : (10 : UInt8) ∉ w2) (a : List Int) (rs : List (List Int)) :
    linesOf ((lineL w1 a ++ rs.flatMap (lineL w2)) ++ endL (lineL w1 a ++ rs.flatMap (lineL w2))) = (w1 ++ numsL a) :: rs.map (fun r => w2 ++ numsL r) ∧ formB ((lineL w1 a ++ rs.flatMap (lineL w2)) ++ endL (lineL w1 a ++ rs.flatMap (lineL w2))) = true ∧
      ∃ x, lineL w1 a ++ rs.flatMap (lineL w2) = x ++ [10] := by
  obtain ⟨x, hx⟩ : ∃ x, lineL w1 a ++ rs.flatMap (lineL w2) = x ++ [10] := by
    rw [flat_lines]
    have gen : ∀ (t : List (List UInt8)) (a : List UInt8), ∃ x, flatL (a :: t) = x ++ [10] := by
      intro t
      induction t with
      | nil => intro a; exact ⟨a, by simp [flatL]⟩
      | cons b t ih =>
        intro a
        obtain ⟨x, hx⟩ := ih b
        exact ⟨a ++ [10] ++ x, by rw [flatL_cons, hx]; simp⟩
    exact gen _ _
  have hH : lineL w1 a ++ rs.flatMap (lineL w2) = flatL ((w1 ++ numsL a) :: rs.map (fun r => w2 ++ numsL r)) := flat_lines w1 w2 a rs
  generalize lineL w1 a ++ rs.flatMap (lineL w2) = H at hx hH ⊢
  have hl : (H ++ endL H).length = x.length + 23 := by rw [List.length_append, endL_len, hx, List.length_append]; rfl
  have hlH : H.length = x.length + 1 := by rw [hx, List.length_append]; rfl
  refine ⟨?_, ?_, x, hx⟩
  · unfold linesOf
    rw [hl, Nat.add_sub_cancel, List.take_append_of_le_length (by omega), hx, List.take_left' rfl]
    refine words_of_flat _ _ x ?_ ?_ (by rw [← hH, hx])
    · intro hm
      rcases List.mem_append.mp hm with e | e
      · exact hw1 e
      · exact numsL_no 10 a (by decide) (by decide) (by decide) e
    · intro y hy hm
      obtain ⟨r, _, rfl⟩ := List.mem_map.mp hy
      rcases List.mem_append.mp hm with e | e
      · exact hw2 e
      · exact numsL_no 10 r (by decide) (by decide) (by decide) e
  · unfold formB
    rw [hl, show x.length + 23 - 22 = H.length by omega, List.drop_left' rfl, closed_end, show x.length + 23 - 23 = x.length by omega, List.getElem?_append_left (by omega), hx, List.getElem?_append_right (by omega), Nat.sub_self]
    simp
theorem scans_mk (w : List UInt8) (hw : (32 : UInt8) ∉ w) (m : Nat) : ∀ (rs : List (List Int)), (∀ r ∈ rs, r.length = m ∧ ∀ n ∈ r, numIn n = true) → scansF w m (rs.map (fun r => w ++ numsL r)) = some rs
  | [], _ => rfl
  | r :: rs, h => by
    rw [List.map_cons, scansF, scans_mk w hw m rs (fun r hr => h r (List.mem_cons_of_mem _ hr)), (scanF_iff _ w hw m r).mpr ⟨rfl, h r List.mem_cons_self⟩]
theorem text_read (w1 w2 : List UInt8) (hw1 : (32 : UInt8) ∉ w1) (hw2 : (32 : UInt8) ∉ w2) (h10 : (10 : UInt8) ∉ w1) (h11 : (10 : UInt8) ∉ w2) (m1 m2 : Nat) (a : List Int) (rs : List (List Int)) (ha : a.length = m1 ∧ ∀ n ∈ a, numIn n = true) (hr : ∀ r ∈ rs, r.length = m2 ∧ ∀ n ∈ r, numIn n = true)
    (hl : ((lineL w1 a ++ rs.flatMap (lineL w2)) ++ endL (lineL w1 a ++ rs.flatMap (lineL w2))).length ≤ 1048576) :
    readC (lineOk w1 m1 w2 m2) ((lineL w1 a ++ rs.flatMap (lineL w2)) ++ endL (lineL w1 a ++ rs.flatMap (lineL w2))) = 0 ∧
      linesOf ((lineL w1 a ++ rs.flatMap (lineL w2)) ++ endL (lineL w1 a ++ rs.flatMap (lineL w2))) = (w1 ++ numsL a) :: rs.map (fun r => w2 ++ numsL r) ∧ scanF (w1 ++ numsL a) w1 m1 = some a ∧ scansF w2 m2 (rs.map (fun r => w2 ++ numsL r)) = some rs := by
  obtain ⟨h1, h2, _⟩ := text_lines w1 w2 h10 h11 a rs
  have s1 := (scanF_iff (w1 ++ numsL a) w1 hw1 m1 a).mpr ⟨rfl, ha⟩
  have s2 := scans_mk w2 hw2 m2 rs hr
  refine ⟨(readC_zero _ _).mpr ⟨hl, h2, ?_, ?_⟩, h1, s1, s2⟩
  · rw [h1, allOk_rows, rowsF, s1, s2]
    rfl
  · rw [List.length_append, endL_len, Nat.add_sub_cancel, List.drop_left' rfl, List.take_left' rfl]
end
end Go.Proofs.YtndojpcjhkncgaaGreatDoor.Q
end
section
namespace Go.Proofs.YtndojpcjhkncgaaGreatDoor.Q
open Go.RowKit Go.Proofs.YtndojpcjhkncgaaGreatDoorW.PrintWords
section
theorem okI_intOk {n : Int} (h : okI n) : intOk n = true := by unfold okI at h; simp [intOk]; omega
theorem order_okI {o : S47} (h : orderB o = true) : ∀ n ∈ [o.f0, o.f1, o.f2, o.f3, o.f4], okI n := by
  simp only [orderB, countB, Bool.and_eq_true, decide_eq_true_eq] at h
  unfold okI
  intro n hn
  simp only [List.mem_cons, List.not_mem_nil, or_false] at hn
  omega
theorem orders_mem : ∀ (l : List S47) (last tot : Int), ordersB last tot l = true → ∀ o ∈ l, orderB o = true
  | [], _, _, _, o, ho => by cases ho
  | x :: l, last, tot, h, o, ho => by
    simp only [ordersB, Bool.and_eq_true] at h
    rcases List.mem_cons.mp ho with rfl | ho
    · exact h.1
    · exact orders_mem l _ _ h.2.2.2 o ho
theorem head_okI {n d : Int} {L : List S47} (h : validB n d L = true) : ∀ m ∈ [n, d, (L.length : Int), netSum L], okI m := by
  obtain ⟨h0, h1, h2⟩ := valid_orders h
  have h3 := netSum_le L 0 0 (by omega) (by omega) h2
  simp only [datedB, countB, Bool.and_eq_true, decide_eq_true_eq] at h0
  unfold okI
  intro m hm
  simp only [List.mem_cons, List.not_mem_nil, or_false] at hm
  omega
theorem flat_len {α : Type} (f : α → List UInt8) (c : Nat) : ∀ (l : List α), (∀ x ∈ l, (f x).length ≤ c) → (l.flatMap f).length ≤ c * l.length
  | [], _ => by simp
  | x :: l, h => by
    have h1 := flat_len f c l (fun y hy => h y (List.mem_cons_of_mem _ hy))
    have h2 := h x (List.mem_cons_self)
    rw [List.flatMap_cons, List.length_append, List.length_cons, Nat.mul_add]
    omega
theorem orderL_len {o : S47} (h : orderB o = true) : (orderL o).length ≤ 116 := by
  have := lineL_len [111, 114, 100, 101, 114] _ (order_okI h)
  simpa [orderL] using this
theorem fileL_len {n d : Int} {L : List S47} (h : validB n d L = true) : (fileL n d L (netSum L)).length ≤ 92 + 116 * L.length := by
  obtain ⟨h0, h1, h2⟩ := valid_orders h
  have h3 := lineL_len [80, 65, 89] _ (head_okI h)
  have h4 := flat_len orderL 116 L (fun o ho => orderL_len (orders_mem L 0 0 h2 o ho))
  unfold fileL
  rw [List.length_append]
  simp only [List.length_cons, List.length_nil] at h3
  omega
theorem fits_valid {n d : Int} {L : List S47} (h : validB n d L = true) : fitsF n d L (netSum L) = true := by
  obtain ⟨h0, h1, h2⟩ := valid_orders h
  unfold fitsF
  rw [Bool.and_eq_true]
  refine ⟨List.all_eq_true.mpr fun m hm => okI_intOk (head_okI h m hm), List.all_eq_true.mpr fun o ho => List.all_eq_true.mpr fun m hm => okI_intOk (order_okI (orders_mem L 0 0 h2 o ho) m hm)⟩
def fileText (n d : Int) (L : List S47) : List UInt8 := fileL n d L (netSum L) ++ endL (fileL n d L (netSum L))
def writeS (n d : Int) (L : List S47) : ByteArray × Int := if validB n d L = true then (B (fileText n d L), 0) else (B [], 2)
theorem Write_ev (n d : Int) (L : List S47) (hL : (L.length : Int) ≤ 4611686018427387904) : Ev (fun k => bank_Write.f k n d L) (writeS n d L) := by
  unfold bank_Write.f writeS
  refine Ev.bind (Valid_ev n d L hL) ?_
  cases h : validB n d L with
  | false => exact Ev.neg (by simp) (Ev.now (B [], 2))
  | true =>
    have hl := fileL_len h
    have h1 := (valid_orders h).2.1
    refine Ev.pos rfl (Ev.bind (total_ev n d L h).1 (Ev.pos (fits_valid h) (Ev.bind (closed_ev _ (by omega)) ?_)))
    exact Ev.now (B (fileText n d L), 0)
theorem refWrite_l0 (n d : Int) (L : List S47) (h : validB n d L = true) (dd : Nat) : ∀ (i : Nat) (s : List UInt8), i + dd = L.length → s.length + 116 * dd ≤ 4398046511104 →
    Ev (fun k => aR_Write.l0 k (B s) (i : Int) n d L) (B ((s ++ (L.drop i).flatMap orderL) ++ endL (s ++ (L.drop i).flatMap orderL)), 0) := by
  obtain ⟨h0, h1, h2⟩ := valid_orders h
  induction dd with
  | zero =>
    intro i s hi hs
    rw [List.drop_eq_nil_of_le (by omega)]
    simp only [List.flatMap_nil, List.append_nil]
    refine Ev.step (fun k => by rw [aR_Write.l0]) (Ev.neg (by omega) (Ev.bind (refEnd_ev s (by omega)) (Ev.pos ?_ (Ev.ret ?_))))
    · rw [B_size, B_size, endL_len]; omega
    · rw [B_cat]
  | succ dd ih =>
    intro i s hi hs
    have hlt : i < L.length := by omega
    have ho := orders_mem L 0 0 h2 L[i] (List.getElem_mem hlt)
    have hl := orderL_len ho
    rw [drop_get L i hlt, List.flatMap_cons]
    refine Ev.step (fun k => by rw [aR_Write.l0]) (Ev.pos (by omega) (Ev.pos (by omega) ?_))
    rw [rdT L i hlt]
    refine Ev.bind (line_ev [111, 114, 100, 101, 114] _ (order_okI ho) (by simp) (by simp)) (Ev.pos ?_ ?_)
    · rw [B_size, B_size]
      unfold orderL at hl
      omega
    · rw [B_cat, w64 (by omega) (by omega)]
      refine Ev.eq (ih (i + 1) (s ++ orderL L[i]) (by omega) (by rw [List.length_append]; omega)) ?_
      rw [List.append_assoc s]
theorem refWrite_ev (n d : Int) (L : List S47) (hL : (L.length : Int) ≤ 4611686018427387904) : Ev (fun k => aR_Write.f k n d L) (writeS n d L) := by
  unfold aR_Write.f writeS
  refine Ev.bind (refValid_ev n d L hL) ?_
  cases h : validB n d L with
  | false => exact Ev.neg (by simp) (Ev.now (B [], 2))
  | true =>
    have h1 := (valid_orders h).2.1
    have h3 := lineL_len [80, 65, 89] _ (head_okI h)
    simp only [List.length_cons, List.length_nil] at h3
    refine Ev.pos rfl (Ev.bind (total_ev n d L h).2 (Ev.bind (line_ev [80, 65, 89] _ (head_okI h) (by simp) (by simp)) ?_))
    exact refWrite_l0 n d L h L.length 0 _ (by omega) (by omega)
theorem back_okI {o : S49} (h : backB o = true) : ∀ n ∈ [o.f0, o.f1], okI n := by
  simp only [backB, countB, Bool.and_eq_true, decide_eq_true_eq] at h
  unfold okI
  intro n hn
  simp only [List.mem_cons, List.not_mem_nil, or_false] at hn
  omega
theorem backs_mem : ∀ (l : List S49) (last : Int), backsB last l = true → ∀ o ∈ l, backB o = true
  | [], _, _, o, ho => by cases ho
  | x :: l, last, h, o, ho => by
    simp only [backsB, Bool.and_eq_true] at h
    rcases List.mem_cons.mp ho with rfl | ho
    · exact h.2.1
    · exact backs_mem l _ h.2.2 o ho
theorem right_parts {n d : Int} {L : List S49} (h : rightB n d L = true) : backsB 0 L = true ∧ datedB n d = true ∧ (L.length : Int) ≤ 1000 := by
  simp only [rightB, Bool.and_eq_true, decide_eq_true_eq] at h
  exact h
theorem headA_okI {n d : Int} {L : List S49} (h : rightB n d L = true) : ∀ m ∈ [n, d, (L.length : Int)], okI m := by
  obtain ⟨_, h0, h1⟩ := right_parts h
  simp only [datedB, countB, Bool.and_eq_true, decide_eq_true_eq] at h0
  unfold okI
  intro m hm
  simp only [List.mem_cons, List.not_mem_nil, or_false] at hm
  omega
theorem returnL_len {o : S49} (h : backB o = true) : (returnL o).length ≤ 51 := by
  have := lineL_len [114, 101, 116, 117, 114, 110] _ (back_okI h)
  simpa [returnL] using this
theorem answerL_len {n d : Int} {L : List S49} (h : rightB n d L = true) : (answerL n d L).length ≤ 71 + 51 * L.length := by
  obtain ⟨h2, h0, h1⟩ := right_parts h
  have h3 := lineL_len [66, 65, 67, 75] _ (headA_okI h)
  have h4 := flat_len returnL 51 L (fun o ho => returnL_len (backs_mem L 0 h2 o ho))
  unfold answerL
  rw [List.length_append]
  simp only [List.length_cons, List.length_nil] at h3
  omega
theorem fits_right {n d : Int} {L : List S49} (h : rightB n d L = true) : fitsA n d L = true := by
  obtain ⟨h2, h0, h1⟩ := right_parts h
  unfold fitsA
  rw [Bool.and_eq_true]
  refine ⟨List.all_eq_true.mpr fun m hm => okI_intOk (headA_okI h m hm), List.all_eq_true.mpr fun o ho => List.all_eq_true.mpr fun m hm => okI_intOk (back_okI (backs_mem L 0 h2 o ho) m hm)⟩
def answerText (n d : Int) (L : List S49) : List UInt8 := answerL n d L ++ endL (answerL n d L)
def answerS (n d : Int) (L : List S49) : ByteArray × Int := if rightB n d L = true then (B (answerText n d L), 0) else (B [], 2)
theorem WriteAnswer_ev (n d : Int) (L : List S49) (hL : (L.length : Int) ≤ 4611686018427387904) : Ev (fun k => bank_WriteAnswer.f k n d L) (answerS n d L) := by
  unfold bank_WriteAnswer.f answerS
  refine Ev.bind (Right_ev n d L hL) ?_
  cases h : rightB n d L with
  | false => exact Ev.neg (by simp) (Ev.now (B [], 2))
  | true =>
    have hl := answerL_len h
    have h1 := (right_parts h).2.2
    refine Ev.pos rfl (Ev.pos (fits_right h) (Ev.bind (closed_ev _ (by omega)) ?_))
    exact Ev.now (B (answerText n d L), 0)
theorem refAnswer_l0 (n d : Int) (L : List S49) (h : rightB n d L = true) (dd : Nat) : ∀ (i : Nat) (s : List UInt8), i + dd = L.length → s.length + 51 * dd ≤ 4398046511104 →
    Ev (fun k => aR_WriteAnswer.l0 k (B s) (i : Int) n d (L.map asRef)) (B ((s ++ (L.drop i).flatMap returnL) ++ endL (s ++ (L.drop i).flatMap returnL)), 0) := by
  obtain ⟨h2, h0, h1⟩ := right_parts h
  have hl : (L.map asRef).length = L.length := List.length_map ..
  induction dd with
  | zero =>
    intro i s hi hs
    rw [List.drop_eq_nil_of_le (by omega)]
    simp only [List.flatMap_nil, List.append_nil]
    refine Ev.step (fun k => by rw [aR_WriteAnswer.l0]) (Ev.neg (by omega) (Ev.bind (refEnd_ev s (by omega)) (Ev.pos ?_ (Ev.ret ?_))))
    · rw [B_size, B_size, endL_len]; omega
    · rw [B_cat]
  | succ dd ih =>
    intro i s hi hs
    have hlt : i < L.length := by omega
    have ho := backs_mem L 0 h2 L[i] (List.getElem_mem hlt)
    have hll := returnL_len ho
    rw [drop_get L i hlt, List.flatMap_cons]
    refine Ev.step (fun k => by rw [aR_WriteAnswer.l0]) (Ev.pos (by omega) (Ev.pos (by omega) ?_))
    rw [rdP (L.map asRef) i (by omega), List.getElem_map]
    refine Ev.bind (line_ev [114, 101, 116, 117, 114, 110] _ (back_okI ho) (by simp) (by simp)) (Ev.pos ?_ ?_)
    · rw [B_size, B_size]
      have hl2 : (lineL [114, 101, 116, 117, 114, 110] [(asRef L[i]).f0, (asRef L[i]).f1]).length ≤ 51 := hll
      omega
    · rw [B_cat, w64 (by omega) (by omega)]
      refine Ev.eq (ih (i + 1) (s ++ returnL L[i]) (by omega) (by rw [List.length_append]; omega)) ?_
      rw [List.append_assoc s]
theorem refAnswer_ev (n d : Int) (L : List S49) (hL : (L.length : Int) ≤ 4611686018427387904) : Ev (fun k => aR_WriteAnswer.f k n d (L.map asRef)) (answerS n d L) := by
  unfold aR_WriteAnswer.f answerS
  refine Ev.bind (refRight_ev n d L hL) ?_
  cases h : rightB n d L with
  | false => exact Ev.neg (by simp) (Ev.now (B [], 2))
  | true =>
    have h1 := (right_parts h).2.2
    have h3 := lineL_len [66, 65, 67, 75] _ (headA_okI h)
    simp only [List.length_cons, List.length_nil] at h3
    rw [List.length_map]
    refine Ev.pos rfl (Ev.bind (line_ev [66, 65, 67, 75] _ (headA_okI h) (by simp) (by simp)) ?_)
    exact refAnswer_l0 n d L h L.length 0 _ (by omega) (by omega)
end
end Go.Proofs.YtndojpcjhkncgaaGreatDoor.Q
end
