/- Part 2 of a proof: the texts SMatch, GG, HBuild, HDig, Shelf, HHex, HLine, HLines, QFbankend, HWrite, QFref36hex, QFref36End, QFref36decimal, QFref36line, QFref36Write, QFref36WriteAnswer, SText, SWrite, QE47, QFlaw36two, put together by a program of this repo. -/
import Derived.Test.YtndojpcjhkncgaaGreatDoorProg
import Derived.Lib.SmallJoins
import Derived.Lib.ItoaNum
import Derived.Lib.TrailingZeros
import Derived.KernelRfl
import Derived.WalkKit
import Derived.OwnWalk
import Derived.Lib.Hide
import Derived.Lib.OthersKept
import Derived.Lib.FrozenHead
import Derived.Lib.FrozenHead2
import Derived.Shelf.Strings.BuilderK
import Derived.Laws.BytesArg
import Derived.Lib.LazyBuf
import Derived.Shelf.Strings.Builder1
import Derived.Shelf.Strings.Builder2
import Derived.Shelf.Strings.Trim
import Derived.Shelf.Small.Utf8
import Derived.Shelf.Small.Strs
import Derived.Shelf.Strings.BuilderF
import Derived.Shelf.Utf8.RuneCount
import Derived.Shelf.Strings.Builder2Cap
import Derived.Shelf.Strconv.Atoi
import Derived.Shelf.Strconv.Itoa0
import Derived.Shelf.Strconv.Itoa1
import Derived.Shelf.LaysM
import Derived.Shelf.Strconv.Itoa2
import Derived.Shelf.Strconv.Itoa3
import Derived.Shelf.Strconv.AtoiErrFast
import Derived.Shelf.Strconv.ParseIntEmpty
import Derived.Shelf.Strconv.AtoiFail
import Derived.Shelf.Strconv.Clone
import Derived.Shelf.Strconv.SyntaxError
import Derived.Shelf.LaysC
import Derived.Shelf.Strconv.ToError
import Derived.Shelf.Strconv.AtoiErr
import Derived.Shelf.Strconv.ErrVar
import Derived.Shelf.Strconv.Lower
import Derived.Shelf.Strconv.ParseUint10
import Derived.Shelf.Strconv.ParseUint10Empty
import Derived.Shelf.Strconv.ParseUint10Any
import Derived.Shelf.Strconv.ParseInt10
import Derived.Shelf.Strconv.AtoiLong
import Derived.Shelf.Strconv.AtoiInnerAll
import Derived.Shelf.Strconv.RangeError
import Derived.Shelf.Strconv.ToErrorRange
import Derived.Shelf.Strconv.AtoiAll
import Derived.Shelf.Strconv.ErrVarAll
import Derived.Shelf.Strings.Search1
import Derived.Shelf.Strings.Search2
import Derived.Shelf.Strings.Search3
import Derived.Shelf.Strings.Count
import Derived.Shelf.Strings.Shaped
import Derived.Shelf.Strings.Prefix
import Derived.Shelf.Strings.Split
import Derived.Shelf.Strings.SplitShaped
import Derived.Shelf.Unicode.Decode
import Derived.Shelf.Strings.Runes
import Derived.Shelf.Strings.RuneCount
import Derived.Shelf.Strings.AsciiSet
import Derived.Shelf.Strings.Explode
import Derived.Shelf.Bits.Mul64
import Derived.Shelf.Strings.Repeat
import Derived.Shelf.Unicode.DecodeSlow
import Derived.Shelf.Unicode.DecodeAny
import Derived.Shelf.Unicode.DecodeLast
import Derived.Shelf.Strings.BuilderCap
import Derived.Outline
import Derived.WalkLawsBesides
import Derived.WalkSpells
import Derived.Laws.BytesString
import Derived.Below
import Derived.Lib.AppendIntMem
import Derived.Test.YtndojpcjhkncgaaGreatDoorVMChanged1
import Derived.Handy
import Derived.Deep.RegionHeld3
import Derived.Lib.ItoaLen
import Derived.Test.YtndojpcjhkncgaaGreatDoorMChanged1

section
namespace Go.Proofs.YtndojpcjhkncgaaGreatDoor.Q
open Go.RowKit Go.Proofs.YtndojpcjhkncgaaGreatDoorW.PrintWords
set_option linter.unusedVariables false
set_option linter.unusedSimpArgs false
def Inc (L : List S47) : Prop := L.Pairwise fun a b => a.f0 < b.f0
theorem inc_of : ∀ (l : List S47) (last tot : Int), ordersB last tot l = true → Inc l ∧ (∀ o ∈ l, last < o.f0) ∧ ∀ o ∈ l, 1 ≤ o.f0 ∧ o.f0 ≤ 1099511627776
  | [], _, _, _ => ⟨List.Pairwise.nil, by simp, by simp⟩
  | x :: l, last, tot, h => by
    simp only [ordersB, Bool.and_eq_true, decide_eq_true_eq] at h
    obtain ⟨h1, h2, h3⟩ := inc_of l _ _ h.2.2.2
    have hn := orderB_net h.1
    refine ⟨List.Pairwise.cons h2 h1, ?_, ?_⟩
    · intro o ho
      rcases List.mem_cons.mp ho with rfl | ho
      · exact h.2.1
      · have := h2 o ho; have := h.2.1; omega
    · intro o ho
      rcases List.mem_cons.mp ho with rfl | ho
      · omega
      · exact h3 o ho
def withN (L : List S47) (t : Int) : List S47 := L.filter fun o => o.f0 == t
theorem with_one : ∀ (L : List S47), Inc L → ∀ (i : Nat) (h : i < L.length), withN L L[i].f0 = [L[i]]
  | [], _, i, h => by simp at h
  | x :: l, hI, i, h => by
    obtain ⟨h1, h2⟩ := List.pairwise_cons.mp hI
    cases i with
    | zero =>
      have : withN l x.f0 = [] := by
        unfold withN
        rw [List.filter_eq_nil_iff]
        intro o ho
        have := h1 o ho
        simp; omega
      simp only [List.getElem_cons_zero]
      unfold withN at this ⊢
      rw [List.filter_cons, this]
      simp
    | succ i =>
      have hl : i < l.length := by simpa using h
      have := h1 l[i] (List.getElem_mem hl)
      simp only [List.getElem_cons_succ]
      have ih := with_one l h2 i hl
      unfold withN at ih ⊢
      rw [List.filter_cons, ih]
      rw [if_neg (by simp; omega)]
theorem with_none {L : List S47} {t : Int} (h : ∀ o ∈ L, o.f0 ≠ t) : withN L t = [] := by
  unfold withN
  rw [List.filter_eq_nil_iff]
  intro o ho
  simpa using h o ho
theorem with_le (L : List S47) (hI : Inc L) (t : Int) : (withN L t).length ≤ 1 := by
  by_cases h : ∃ i, ∃ h : i < L.length, L[i].f0 = t
  · obtain ⟨i, hi, rfl⟩ := h
    rw [with_one L hI i hi]; simp
  · rw [with_none]; simp
    intro o ho he
    obtain ⟨i, hi, rfl⟩ := List.getElem_of_mem ho
    exact h ⟨i, hi, he⟩
theorem inc_lt {L : List S47} (hI : Inc L) {i j : Nat} (hij : i < j) (hj : j < L.length) : L[i].f0 < L[j].f0 := List.pairwise_iff_getElem.mp hI i j (by omega) hj hij
def Found (L : List S47) (t : Int) (r : Int × Bool) : Prop :=
  (∃ i : Nat, ∃ h : i < L.length, r = ((i : Int), true) ∧ L[i].f0 = t) ∨ (r.2 = false ∧ ∀ o ∈ L, o.f0 ≠ t)
theorem bs_l0 (L : List S47) (hI : Inc L) (hb : ∀ o ∈ L, 1 ≤ o.f0 ∧ o.f0 ≤ 1099511627776) (hL : L.length ≤ 1000) (t : Int) (ht : 1 ≤ t ∧ t ≤ 1099511627776) (d : Nat) : ∀ (lo hi : Nat), lo ≤ hi → hi ≤ L.length → hi - lo ≤ d →
    (∀ j (h : j < L.length), j < lo → L[j].f0 < t) → (∀ j (h : j < L.length), hi ≤ j → t ≤ L[j].f0) → ∃ r, Found L t r ∧ Ev (fun k => api_Order_int_at56.l0 k L t (L.length : Int) (lo : Int) (hi : Int)) r := by
  induction d with
  | zero =>
    intro lo hi h1 h2 h3 hlo hhi
    obtain rfl : lo = hi := by omega
    by_cases hn : lo < L.length
    · have hm := hb L[lo] (List.getElem_mem hn)
      have hge := hhi lo hn (Nat.le_refl _)
      by_cases he : L[lo].f0 = t
      · refine ⟨((lo : Int), true), .inl ⟨lo, hn, rfl, he⟩, Ev.step (fun k => by rw [api_Order_int_at56.l0]) (Ev.neg (by omega) (Ev.pos (by omega) (Ev.pos (by omega) (Ev.pos (by omega) ?_))))⟩
        rw [rdT L lo hn]
        refine Ev.const (show bank_Match_1.f _ _ _ _ _ _ = some _ from rfl) (Ev.ret ?_)
        rw [he, Int.sub_self, w64 (by omega) (by omega)]
        rfl
      · refine ⟨((lo : Int), false), .inr ⟨rfl, ?_⟩, Ev.step (fun k => by rw [api_Order_int_at56.l0]) (Ev.neg (by omega) (Ev.pos (by omega) (Ev.pos (by omega) (Ev.pos (by omega) ?_))))⟩
        · intro o ho hot
          obtain ⟨j, hj, rfl⟩ := List.getElem_of_mem ho
          rcases Nat.lt_trichotomy j lo with h | h | h
          · have := hlo j hj h; omega
          · subst h; exact he hot
          · have := inc_lt hI h hj; omega
        · rw [rdT L lo hn]
          refine Ev.const (show bank_Match_1.f _ _ _ _ _ _ = some _ from rfl) (Ev.ret ?_)
          rw [w64 (by omega) (by omega)]
          have : (L[lo].f0 - t == 0) = false := by simp; omega
          rw [this]
    · refine ⟨((lo : Int), false), .inr ⟨rfl, ?_⟩, Ev.step (fun k => by rw [api_Order_int_at56.l0]) (Ev.neg (by omega) (Ev.neg (by omega) (Ev.now _)))⟩
      intro o ho hot
      obtain ⟨j, hj, rfl⟩ := List.getElem_of_mem ho
      have := hlo j hj (by omega)
      omega
  | succ d ih =>
    intro lo hi h1 h2 h3 hlo hhi
    by_cases hlt : lo < hi
    · have hm : wrap64 ((IntKind.u64.wrap (wrap64 ((lo : Int) + (hi : Int)))) / 2) = (((lo + hi) / 2 : Nat) : Int) := by
        rw [w64 (n := (lo : Int) + (hi : Int)) (by omega) (by omega), IntKind.wrap_u64, w64 (by omega) (by omega)]
        omega
      have hml : (lo + hi) / 2 < L.length := by omega
      obtain ⟨m, hmm⟩ : ∃ m, (lo + hi) / 2 = m := ⟨_, rfl⟩
      rw [hmm] at hm hml
      have hb' := hb L[m] (List.getElem_mem hml)
      by_cases hc : L[m].f0 < t
      · obtain ⟨r, hr, he⟩ := ih (m + 1) hi (by omega) h2 (by omega) (fun j hj hjl => by
          rcases Nat.lt_or_ge j m with h | h
          · have := inc_lt hI h hml; omega
          · obtain rfl : j = m := by omega
            exact hc) hhi
        refine ⟨r, hr, Ev.step (fun k => by rw [api_Order_int_at56.l0]) (Ev.pos (by omega) ?_)⟩
        rw [hm]
        refine Ev.pos (by omega) (Ev.pos (by omega) ?_)
        rw [rdT L m hml]
        refine Ev.const (show bank_Match_1.f _ _ _ _ _ _ = some _ from rfl) ?_
        rw [w64 (n := L[m].f0 - t) (by omega) (by omega), w64 (n := (m : Int) + 1) (by omega) (by omega)]
        exact Ev.pos (by omega) he
      · obtain ⟨r, hr, he⟩ := ih lo m (by omega) (by omega) (by omega) hlo (fun j hj hjl => by
          rcases Nat.lt_or_ge m j with h | h
          · have := inc_lt hI h hj; omega
          · obtain rfl : j = m := by omega
            omega)
        refine ⟨r, hr, Ev.step (fun k => by rw [api_Order_int_at56.l0]) (Ev.pos (by omega) ?_)⟩
        rw [hm]
        refine Ev.pos (by omega) (Ev.pos (by omega) ?_)
        rw [rdT L m hml]
        refine Ev.const (show bank_Match_1.f _ _ _ _ _ _ = some _ from rfl) ?_
        rw [w64 (n := L[m].f0 - t) (by omega) (by omega)]
        exact Ev.neg (by omega) he
    · exact ih lo hi h1 h2 (by omega) hlo hhi
theorem bs_ev (L : List S47) (hI : Inc L) (hb : ∀ o ∈ L, 1 ≤ o.f0 ∧ o.f0 ≤ 1099511627776) (hL : L.length ≤ 1000) (t : Int) (ht : 1 ≤ t ∧ t ≤ 1099511627776) : ∃ r, Found L t r ∧ Ev (fun k => api_Order_int_at56.f k L t) r := by
  unfold api_Order_int_at56.f
  exact bs_l0 L hI hb hL t ht L.length 0 L.length (by omega) (by omega) (by omega) (by omega) (by omega)
def picked (L : List S47) (R : List S49) : List S47 := R.flatMap fun r => withN L r.f0
theorem picked_le (L : List S47) (hI : Inc L) : ∀ (R : List S49), (picked L R).length ≤ R.length
  | [] => by simp [picked]
  | r :: R => by
    have h1 := picked_le L hI R
    have h2 := with_le L hI r.f0
    unfold picked at h1 ⊢
    rw [List.flatMap_cons, List.length_append, List.length_cons]
    omega
def pickS (L : List S47) (R : List S49) : List S47 × Int := if (picked L R).length = R.length then (picked L R, 0) else ([], 6)
theorem match_l0 (L : List S47) (n1 d1 : Int) (hI : Inc L) (hb : ∀ o ∈ L, 1 ≤ o.f0 ∧ o.f0 ≤ 1099511627776) (hL : L.length ≤ 1000) (R : List S49) (hR : R.length ≤ 1000) (hr : ∀ r ∈ R, 1 ≤ r.f0 ∧ r.f0 ≤ 1099511627776) (d : Nat) : ∀ (i : Nat) (pre : List S47), i + d = R.length → pre.length = i →
    Ev (fun k => bank_Match.l0 k pre R (R.length : Int) (i : Int) n1 d1 L) (if (picked L (R.drop i)).length = d then (pre ++ picked L (R.drop i), 0) else ([], 6)) := by
  induction d with
  | zero =>
    intro i pre hi hp
    rw [List.drop_eq_nil_of_le (by omega)]
    exact Ev.step (fun k => by rw [bank_Match.l0]) (Ev.neg (by omega) (Ev.ret (by simp [picked])))
  | succ d ih =>
    intro i pre hi hp
    have hlt : i < R.length := by omega
    rw [drop_get R i hlt]
    refine Ev.step (fun k => by rw [bank_Match.l0]) (Ev.pos (by omega) (Ev.pos (by omega) (Ev.pos (by omega) ?_)))
    rw [rdR R i hlt]
    obtain ⟨r, hf, he⟩ := bs_ev L hI hb hL R[i].f0 (hr _ (List.getElem_mem hlt))
    refine Ev.bind he ?_
    rcases hf with ⟨j, hj, rfl, hjt⟩ | ⟨h2, hno⟩
    · refine Ev.pos rfl (Ev.pos (by show (0 : Int) ≤ (j : Int); omega) (Ev.pos (by show (j : Int) < _; omega) (Ev.pos (by omega) ?_)))
      show Ev (fun k => bank_Match.l0 k (pre ++ [⟨(rd_T47 L (j : Int)).f0, (rd_T47 L (j : Int)).f1, (rd_T47 L (j : Int)).f2, (rd_T47 L (j : Int)).f3, (rd_T47 L (j : Int)).f4⟩]) R (R.length : Int) (wrap64 ((i : Int) + 1)) n1 d1 L) _
      rw [rdT L j hj, w64 (by omega) (by omega)]
      refine Ev.eq (ih (i + 1) (pre ++ [L[j]]) (by omega) (by simp; omega)) ?_
      have hw : withN L R[i].f0 = [L[j]] := by rw [← hjt]; exact with_one L hI j hj
      have e1 : (picked L (R[i] :: R.drop (i + 1))) = [L[j]] ++ picked L (R.drop (i + 1)) := by unfold picked; rw [List.flatMap_cons, hw]
      rw [e1]
      simp only [List.length_append, List.length_cons, List.length_nil]
      by_cases hc : (picked L (R.drop (i + 1))).length = d
      · rw [if_pos hc, if_pos (by omega), List.append_assoc]
      · rw [if_neg hc, if_neg (by omega)]
    · refine Ev.neg (by rw [h2]; simp) (Ev.ret ?_)
      have e1 : (picked L (R[i] :: R.drop (i + 1))) = picked L (R.drop (i + 1)) := by unfold picked; rw [List.flatMap_cons, with_none hno]; rfl
      have := picked_le L hI (R.drop (i + 1))
      rw [List.length_drop] at this
      rw [e1, if_neg (by omega)]
def matchS (n1 d1 : Int) (L : List S47) (n2 d2 : Int) (R : List S49) : List S47 × Int :=
  if validB n1 d1 L = true ∧ rightB n2 d2 R = true then (if n1 = n2 ∧ d1 ≤ d2 then pickS L R else ([], 363)) else ([], 2)
theorem backs_num : ∀ (l : List S49) (last : Int), backsB last l = true → ∀ o ∈ l, 1 ≤ o.f0 ∧ o.f0 ≤ 1099511627776
  | [], _, _, o, ho => by cases ho
  | x :: l, last, h, o, ho => by
    simp only [backsB, backB, countB, Bool.and_eq_true, decide_eq_true_eq] at h
    rcases List.mem_cons.mp ho with rfl | ho
    · omega
    · exact backs_num l _ h.2.2 o ho
theorem right_parts' {n d : Int} {L : List S49} (h : rightB n d L = true) : backsB 0 L = true ∧ datedB n d = true ∧ (L.length : Int) ≤ 1000 := by
  simp only [rightB, Bool.and_eq_true, decide_eq_true_eq] at h
  exact h
theorem sm0 (n1 d1 : Int) (L : List S47) (n2 d2 : Int) (R : List S49) : Ev (fun k => bank_Match.j0 k true n1 d1 L n2 d2 R) ([], 2) := by
  refine Ev.step (fun k => by rw [bank_Match.j0]) ?_
  refine Ev.pos rfl ?_
  exact Ev.ret rfl
theorem Match_ev (n1 d1 : Int) (L : List S47) (n2 d2 : Int) (R : List S49) (hL : (L.length : Int) ≤ 4611686018427387904) (hR : (R.length : Int) ≤ 4611686018427387904) : Ev (fun k => bank_Match.f k n1 d1 L n2 d2 R) (matchS n1 d1 L n2 d2 R) := by
  unfold bank_Match.f matchS
  refine Ev.bind (Valid_ev n1 d1 L hL) ?_
  cases h : validB n1 d1 L with
  | false => exact Ev.neg (by simp) (Ev.eq (sm0 n1 d1 L n2 d2 R) (by simp))
  | true =>
    refine Ev.pos rfl (Ev.bind (Right_ev n2 d2 R hR) ?_)
    cases h2 : rightB n2 d2 R with
    | false => exact Ev.eq (sm0 n1 d1 L n2 d2 R) (by simp)
    | true =>
      refine Ev.step (fun k => by rw [bank_Match.j0]) (Ev.neg (by simp) ?_)
      simp only [true_and, and_self, if_true]
      by_cases h3 : n1 = n2
      · refine Ev.pos h3 ?_
        by_cases h4 : d2 < d1
        · exact Ev.pos h4 (Ev.ret (by rw [if_neg (by omega)]))
        · refine Ev.neg h4 ?_
          rw [if_pos (by omega)]
          have hv := valid_orders h
          have hr := right_parts' h2
          have hi := inc_of L 0 0 hv.2.2
          refine Ev.eq (match_l0 L n1 d1 hi.1 hi.2.2 (by omega) R (by omega) (backs_num R 0 hr.1) R.length 0 [] (by omega) rfl) ?_
          simp [pickS]
      · exact Ev.neg h3 (Ev.ret (by rw [if_neg (by omega)]))
end Go.Proofs.YtndojpcjhkncgaaGreatDoor.Q
end

section
namespace Go.Proofs.YtndojpcjhkncgaaGreatDoor.Q
open Go Go.RowKit
set_option linter.unusedVariables false
set_option linter.unusedSimpArgs false
structure GG (w : World) : Prop where
  pow : Lib.TabIs Tryz.prog w "internal/strconv.uint64pow10" .u64 Lib.pow10Tab
  low : Lib.TabIs Tryz.prog w "math/bits.deBruijn64tab" .u8 (Lib.deBruijn64tab.map fun (n : Nat) => (n : Int))
  syn : ∃ ev, w.cell? ⟨2, 0, none⟩ = some ev ∧ (ev = .nilIface ∨ ∃ te pe, ev = .iface te pe)
  rng : ∃ ev, w.cell? ⟨3, 0, none⟩ = some ev ∧ (ev = .nilIface ∨ ∃ te pe, ev = .iface te pe)
  max : ∃ m, w.cell? ⟨1, 0, none⟩ = some (.int .i64 m)
theorem named_pow : Tryz.prog.globalNamed "internal/strconv.uint64pow10" = some 0 := by kernel_rfl
theorem named_low : Tryz.prog.globalNamed "math/bits.deBruijn64tab" = some 7 := by kernel_rfl
theorem gcell {w w1 : World} {a : Addr} {v : Value} (h : w.cell? a = some v) (hb : Below w.heap.size w w1) : w1.cell? a = some v := (hb.cell (World.block_lt_of_cell? w a h)).trans h
theorem GG.below {w w1 : World} (h : GG w) (hb : Below w.heap.size w w1) : GG w1 where
  pow := Joins.tab_stays named_pow h.pow hb (Nat.le_refl _)
  low := Joins.tab_stays named_low h.low hb (Nat.le_refl _)
  syn := let ⟨ev, h1, h2⟩ := h.syn; ⟨ev, gcell h1 hb, h2⟩
  rng := let ⟨ev, h1, h2⟩ := h.rng; ⟨ev, gcell h1 hb, h2⟩
  max := let ⟨m, h1⟩ := h.max; ⟨m, gcell h1 hb⟩
end Go.Proofs.YtndojpcjhkncgaaGreatDoor.Q
end

section
namespace Go.Proofs.YtndojpcjhkncgaaGreatDoor.Q
open Go Go.RowKit
set_option linter.unusedVariables false
set_option linter.unusedSimpArgs false
theorem sizeBuilder : (Tryz.prog.info? 100).map (·.size) = some 2 := by kernel_rfl
theorem liesBuilder : liesAt Tryz.prog Tryz.prog.depth 100 (2 / Tryz.prog.cellsOf 100) 0 100 1 = true := by kernel_rfl
theorem infoByte : (Tryz.prog.info? 5).map (fun i => (i.zero, i.size, i.bytes)) = some (some (.int .u8 0), 1, 1) := by kernel_rfl
set_option maxRecDepth 100000 in
theorem copyCheck_fresh (b : Nat) (w : World) (h0 : w.cell? ⟨b, 0, none⟩ = some (.pointer none)) (hsh : w.shape? b = some (100, 2)) (hfz : w.frozen? ⟨b, 0, none⟩ = false) :
    Calls Tryz.prog 72 #[.pointer (some ⟨b, 0, none⟩)] w fun e w' => e = .returned (.tuple #[]) ∧ w' = w.setCell ⟨b, 0, none⟩ (.pointer (some ⟨b, 0, none⟩)) := by
  obtain ⟨j, hj, hjs⟩ := Option.map_eq_some_iff.1 sizeBuilder
  go_enter Tryz.func72, Tryz.ntmps72
  go_wp2
  rw [Lib.run_to_unsafe w ⟨b, 0, none⟩ Tryz.underlying98 Tryz.underlying123 hj (by rw [hjs]; decide) hsh (Nat.zero_lt_succ 1)]
  simp only [Result.andThen]
  rw [Oper.upon_value]
  go_wp2
  rw [run_callFunc_extern Tryz.func81 (by kernel_rfl) (by kernel_rfl) (by kernel_rfl) (e := Extern.AbiNoEscape.same) (by kernel_rfl)]
  rw [Lib.run_noEscape]
  simp only [Result.andThen]
  rw [Oper.upon_value]
  go_wp2
  rw [Lib.run_from_unsafe w ⟨b, 0, none⟩ Tryz.underlying123 Tryz.underlying98 hj hsh liesBuilder]
  simp only [Result.andThen]
  rw [Oper.upon_value]
  go_wp2
  go_end0
  exact ⟨rfl, rfl⟩
set_option maxRecDepth 100000 in
theorem copyCheck_used (b : Nat) (w : World) (h0 : w.cell? ⟨b, 0, none⟩ = some (.pointer (some ⟨b, 0, none⟩))) :
    Calls Tryz.prog 72 #[.pointer (some ⟨b, 0, none⟩)] w fun e w' => e = .returned (.tuple #[]) ∧ w' = w := by
  obtain ⟨j, hj, _⟩ := Option.map_eq_some_iff.1 sizeBuilder
  go_enter Tryz.func72, Tryz.ntmps72
  go_wp2
  rw [Lib.run_neq_ptr_same w _ Tryz.underlying98 hj]
  go_wp2
  go_end0
  exact ⟨rfl, rfl⟩
theorem copyCheck_k (B b : Nat) (bs : List Value) (w : World) (h : Lib.IsBuilderF 100 5 B b bs w) :
    Calls Tryz.prog 72 #[.pointer (some ⟨b, 0, none⟩)] w fun e w' => e = .returned (.tuple #[]) ∧ (Lib.BuilderAtF 100 5 B b (.pointer (some ⟨b, 0, none⟩)) bs w' ∧ Below B w w' ∧ Lib.OthersKept 5 (some b) w w') := by
  rcases h with h | h
  · refine (copyCheck_fresh b w h.cell0 h.shape h.frozen0).mono ?_
    rintro e w' ⟨rfl, rfl⟩
    exact ⟨rfl, h.used _, (Below.refl B w).setCell (p := ⟨b, 0, none⟩) h.1 _, (Lib.OthersKept.refl _ _ w).setCell ⟨b, 0, none⟩ rfl _⟩
  · refine (copyCheck_used b w h.cell0).mono ?_
    rintro e w' ⟨rfl, rfl⟩
    exact ⟨rfl, h, Below.refl B _, Lib.OthersKept.refl _ _ _⟩
theorem neB : (100 : Nat) ≠ 5 := by decide
set_option maxHeartbeats 1000000 in
set_option maxRecDepth 100000 in
theorem WriteByte_k (B b : Nat) (bs : List Value) (c : Int) (w : World) (h : Lib.IsBuilderF 100 5 B b bs w) (hlen : bs.length + 1 ≤ 140737488355328) (hBw : B ≤ w.heap.size) :
    Calls Tryz.prog 61 #[.pointer (some ⟨b, 0, none⟩), .int .u8 c] w fun e w' => e = .returned .nilIface ∧ (Lib.BuilderAtF 100 5 B b (.pointer (some ⟨b, 0, none⟩)) (bs ++ [.int .u8 c]) w' ∧ Below B w w' ∧ Lib.OthersKept 5 (some b) w w') := by
  obtain ⟨i0, hi, hz0, hz1, hz2⟩ := info_parts infoByte
  have hCC := Lib.hid (copyCheck_k B b bs w h)
  clear h
  go_enter Tryz.func61, Tryz.ntmps61
  go_wp2_with (go_at_call 72; refine hCC.out.mono ?_)
  rintro e w1 ⟨rfl, h1, hb1, hk1⟩
  obtain ⟨hB, v, hbk, hown, hne⟩ := h1
  have c0 : w1.cell? ⟨b, 0, none⟩ = some (.pointer (some ⟨b, 0, none⟩)) := by rw [Lib.cell_of_heap hbk]; rfl
  have c1 : w1.cell? ⟨b, 1, none⟩ = some v := by rw [Lib.cell_of_heap hbk]; rfl
  go_wp2_with (at_builtin; refine wpList_append_ownF _ rfl _ _ 53 rfl B 5 i0 (.int .u8 0) 1 1 Tryz.underlying53 hi hz0 hz1 hz2 rfl (by decide) _ _ _ rfl (hown.alloc _) ⟨w1.heap.size, 0, none⟩ 1 1 [.int .u8 c] rfl rfl ?c1 ?c2 ?c3 ?c4 ?c5 ?_)
  case c1 =>
    intro j u hj
    match j, hj with
    | 0, hj => simp at hj; subst hj; simp [Addr.add]
  case c2 => intro u hu; simp at hu; subst hu; rfl
  case c3 => unfold maxLen; omega
  case c4 => omega
  case c5 => have := hb1.size; simp; omega
  intro v' w2 hown' hgrow _
  have hlt : b < w1.heap.size := by
    rcases Nat.lt_or_ge b w1.heap.size with h' | h'
    · exact h'
    · simp [Array.getElem?_eq_none h'] at hbk
  have hb2 : w2.heap[b]? = some (.cells #[.pointer (some ⟨b, 0, none⟩), v] 100 (0, 0)) := by
    rw [hgrow.block b (by simp; omega) (fun e => hne e.symm), Lib.alloc_old w1 _ b hlt]
    exact hbk
  have d0 : w2.cell? ⟨b, 0, none⟩ = some (.pointer (some ⟨b, 0, none⟩)) := by rw [Lib.cell_of_heap hb2]; rfl
  have d1 : w2.cell? ⟨b, 1, none⟩ = some v := by rw [Lib.cell_of_heap hb2]; rfl
  have f1 : w2.frozen? ⟨b, 1, none⟩ = false := Lib.frozen_of_heap hb2 1
  obtain ⟨g, cap, rfl⟩ : ∃ g cap, v' = .slice (some ⟨g, 0, none⟩) (bs.length + 1) cap := by
    rcases hown'.2 with ⟨_, h0⟩ | ⟨g, cap, cur, fz, hv, _⟩
    · omega
    · exact ⟨g, cap, hv⟩
  go_wp2
  go_ret
  refine ⟨rfl, ?_, ?_, ((hk1.alloc _).grown hgrow (Lib.ownsRowF_kind (hown.alloc _))).setCell ⟨b, 1, none⟩ rfl _⟩
  · exact Lib.BuilderAtF.put (T := 100) (e := 5) hB hb2 (bs' := bs ++ [.int .u8 c]) (by simpa using hown') neB
  · exact ((hb1.alloc (by have := hb1.size; omega) _).grown hgrow (by have := hb1.size; simp; omega) (fun k hk => (hown.lt k hk).1)).setCell (p := ⟨b, 1, none⟩) hB _
set_option maxHeartbeats 1000000 in
set_option maxRecDepth 100000 in
theorem WriteString_k (B b : Nat) (bs : List Value) (s : ByteArray) (w : World) (h : Lib.IsBuilderF 100 5 B b bs w) (hlen : bs.length + s.size ≤ 140737488355328) (hBw : B ≤ w.heap.size) :
    Calls Tryz.prog 60 #[.pointer (some ⟨b, 0, none⟩), .string s] w fun e w' => e = .returned (.tuple #[.int .i64 s.size, .nilIface]) ∧ (Lib.BuilderAtF 100 5 B b (.pointer (some ⟨b, 0, none⟩)) (bs ++ Lib.strCells s) w' ∧ Below B w w' ∧ Lib.OthersKept 5 (some b) w w') := by
  obtain ⟨i0, hi, hz0, hz1, hz2⟩ := info_parts infoByte
  have hCC := Lib.hid (copyCheck_k B b bs w h)
  clear h
  go_enter Tryz.func60, Tryz.ntmps60
  go_wp2_with (go_at_call 72; refine hCC.out.mono ?_)
  rintro e w1 ⟨rfl, h1, hb1, hk1⟩
  obtain ⟨hB, v, hbk, hown, hne⟩ := h1
  have c0 : w1.cell? ⟨b, 0, none⟩ = some (.pointer (some ⟨b, 0, none⟩)) := by rw [Lib.cell_of_heap hbk]; rfl
  have c1 : w1.cell? ⟨b, 1, none⟩ = some v := by rw [Lib.cell_of_heap hbk]; rfl
  go_wp2_with (at_builtin; refine Lib.wpList_append_own_stringF _ rfl _ _ 53 9 rfl B 5 i0 Tryz.underlying53 Tryz.underlying9 hi hz0 hz1 hz2 _ _ _ rfl hown s rfl ?c3 ?c4 ?c5 ?_)
  case c3 => unfold maxLen; omega
  case c4 => omega
  case c5 => have := hb1.size; omega
  intro v' w2 hown' hgrow _
  have hlt : b < w1.heap.size := by
    rcases Nat.lt_or_ge b w1.heap.size with h' | h'
    · exact h'
    · simp [Array.getElem?_eq_none h'] at hbk
  have hb2 : w2.heap[b]? = some (.cells #[.pointer (some ⟨b, 0, none⟩), v] 100 (0, 0)) := by
    rw [hgrow.block b hlt (fun e => hne e.symm)]
    exact hbk
  have d0 : w2.cell? ⟨b, 0, none⟩ = some (.pointer (some ⟨b, 0, none⟩)) := by rw [Lib.cell_of_heap hb2]; rfl
  have d1 : w2.cell? ⟨b, 1, none⟩ = some v := by rw [Lib.cell_of_heap hb2]; rfl
  have f1 : w2.frozen? ⟨b, 1, none⟩ = false := Lib.frozen_of_heap hb2 1
  obtain ⟨ao, n', cap, rfl⟩ : ∃ ao n' cap, v' = .slice ao n' cap := by
    rcases hown'.2 with ⟨hv, _⟩ | ⟨g, cap, cur, fz, hv, _⟩
    · exact ⟨_, _, _, hv⟩
    · exact ⟨_, _, _, hv⟩
  go_wp2
  go_ret2
  refine ⟨rfl, ?_, ?_, (hk1.grown hgrow (Lib.ownsRowF_kind hown)).setCell ⟨b, 1, none⟩ rfl _⟩
  · exact Lib.BuilderAtF.put (T := 100) (e := 5) hB hb2 (bs' := bs ++ Lib.strCells s) (by simpa [Lib.strCells_length] using hown') neB
  · exact (hb1.grown hgrow (by have := hb1.size; omega) (fun k hk => (hown.lt k hk).1)).setCell (p := ⟨b, 1, none⟩) hB _
end Go.Proofs.YtndojpcjhkncgaaGreatDoor.Q
end

section
namespace Go.Proofs.YtndojpcjhkncgaaGreatDoor.Q
open Go Go.RowKit
set_option linter.unusedVariables false
set_option linter.unusedSimpArgs false
def dig (n : Nat) : UInt8 := ([48, 49, 50, 51, 52, 53, 54, 55, 56, 57, 97, 98, 99, 100, 101, 102] : List UInt8).getD n 0
def hexL (n : Nat) : List UInt8 := if n < 16 then [dig n] else hexL (n / 16) ++ [dig (n % 16)]
termination_by n
def hexA (l : List UInt8) : Array Value := (List.replicate (65 - l.length) (Value.int .u8 0) ++ l.map fun b => Value.int .u8 b.toNat).toArray
theorem digs_at (n : Nat) (hn : n < 16) : ∀ h, ((⟨#[48, 49, 50, 51, 52, 53, 54, 55, 56, 57, 97, 98, 99, 100, 101, 102, 103, 104, 105, 106, 107, 108, 109, 110, 111, 112, 113, 114, 115, 116, 117, 118, 119, 120, 121, 122]⟩ : ByteArray)[n]'h) = dig n := by
  intro h
  match n, hn with
  | 0, _ => rfl
  | 1, _ => rfl
  | 2, _ => rfl
  | 3, _ => rfl
  | 4, _ => rfl
  | 5, _ => rfl
  | 6, _ => rfl
  | 7, _ => rfl
  | 8, _ => rfl
  | 9, _ => rfl
  | 10, _ => rfl
  | 11, _ => rfl
  | 12, _ => rfl
  | 13, _ => rfl
  | 14, _ => rfl
  | 15, _ => rfl
  | n + 16, h => omega
theorem hexA_set (l : List UInt8) (j : Nat) (d : UInt8) (hj : j + l.length = 65) (h1 : 1 ≤ j) : (hexA l).setIfInBounds (j - 1) (Value.int .u8 (d.toNat : Int)) = hexA (d :: l) := by
  obtain ⟨m, rfl⟩ : ∃ m, j = m + 1 := ⟨j - 1, by omega⟩
  unfold hexA
  rw [List.setIfInBounds_toArray, show 65 - l.length = m + 1 by omega, show 65 - (d :: l).length = m by simp; omega, Nat.add_sub_cancel, List.replicate_succ', List.append_assoc, List.set_append_right _ _ (by simp)]
  simp
theorem hexA_size (l : List UInt8) (h : l.length ≤ 65) : (hexA l).size = 65 := by simp [hexA]; omega
theorem hexA_cell (l : List UInt8) (i : Nat) (h : l.length ≤ 65) (hi : i < l.length) : (hexA l)[65 - l.length + i]? = some (.int .u8 ((l.map fun b => (b.toNat : Int)).getD i 0)) := by
  simp [hexA, List.getElem?_append, hi]
theorem and_15 (v : Nat) (h : v < 4294967296) : Go.bits .and .u64 (v : Int) 15 = ((v % 16 : Nat) : Int) := by
  have := bits_and_u64_nat v 15 (by omega) (by omega)
  rw [show ((15 : Nat) : Int) = 15 from rfl] at this
  rw [this, Nat.and_two_pow_sub_one_eq_mod v 4]
theorem hexL_small (v : Nat) (h : v < 16) : hexL v = [dig v] := by rw [hexL, if_pos h]
theorem hexL_big (v : Nat) (h : 16 ≤ v) : hexL v = hexL (v / 16) ++ [dig (v % 16)] := by rw [hexL, if_neg (by omega)]
theorem hexL_step (u v : Nat) (l : List UInt8) (h : hexL u = hexL v ++ l) (h16 : 16 ≤ v) : hexL u = hexL (v / 16) ++ (dig (v % 16) :: l) := by rw [h, hexL_big v h16]; simp
theorem hexL_end (u v : Nat) (l : List UInt8) (h : hexL u = hexL v ++ l) (h16 : v < 16) : hexL u = dig v :: l := by rw [h, hexL_small v h16]; rfl
theorem hexL_length (k : Nat) : ∀ u, u < 16 ^ (k + 1) → 1 ≤ (hexL u).length ∧ (hexL u).length ≤ k + 1 := by
  induction k with
  | zero => intro u hu; rw [hexL_small u (by simpa using hu)]; simp
  | succ k ih =>
    intro u hu
    by_cases h : u < 16
    · rw [hexL_small u h]; simp
    · rw [hexL_big u (by omega)]
      have := ih (u / 16) (by rw [Nat.div_lt_iff_lt_mul (by omega), ← Nat.pow_succ]; exact hu)
      simp; omega
end Go.Proofs.YtndojpcjhkncgaaGreatDoor.Q
end

section
namespace Go.Proofs
open Go.Shelf
def Tryz.lays169_ren : Go.Shelf.Ren := ⟨fun | 169 => 63 | n => n, fun | 70 => 98 | 9 => 9 | 0 => 0 | 72 => 100 | 37 => 53 | 127 => 118 | 3 => 3 | 5 => 5 | n => n, fun | n => n⟩
theorem Tryz.lays169 : Go.Proofs.Lays.n169 Tryz.prog Tryz.lays169_ren := {
  mixed := by kernel_rfl
  f169 := Tryz.func63.trans (congrArg some (by kernel_rfl))
  t0 := Tryz.underlying0
  a0 := Tryz.isAgg0
  z0 := Tryz.sizeOf0
  v0 := Tryz.zeroValue0
  t3 := Tryz.underlying3
  a3 := Tryz.isAgg3
  z3 := Tryz.sizeOf3
  v3 := Tryz.zeroValue3
  t9 := Tryz.underlying9
  a9 := Tryz.isAgg9
  z9 := Tryz.sizeOf9
  v9 := Tryz.zeroValue9
  t37 := Tryz.underlying53
  a37 := Tryz.isAgg53
  z37 := Tryz.sizeOf53
  v37 := Tryz.zeroValue53
  t70 := Tryz.underlying98
  a70 := Tryz.isAgg98
  z70 := Tryz.sizeOf98
  v70 := Tryz.zeroValue98
  t72 := Tryz.underlying100
  a72 := Tryz.isAgg100
  z72 := Tryz.sizeOf100
  v72 := Tryz.zeroValue100
  t127 := Tryz.underlying118
  a127 := Tryz.isAgg118
  z127 := Tryz.sizeOf118
  v127 := Tryz.zeroValue118 }
theorem Tryz.Builder_Extra_169 : Builder.Extra Tryz.prog Tryz.lays169_ren := {
  sizeBuilder := by kernel_rfl
  liesBuilder := by kernel_rfl
  t5 := Tryz.underlying5
  a5 := Tryz.isAgg5
  z5 := Tryz.sizeOf5
  v5 := Tryz.zeroValue5
  infoByte := by kernel_rfl
  cellsByte := by kernel_rfl
  sizeByte := by kernel_rfl
  neB5 := by decide }
def Tryz.lays160_ren : Go.Shelf.Ren := ⟨fun | 160 => 75 | 232 => 86 | 231 => 85 | 227 => 87 | 234 => 89 | 233 => 88 | 236 => 91 | 235 => 90 | 228 => 109 | 271 => 112 | 151 => 111 | 197 => 110 | 120 => 134 | 152 => 133 | 260 => 132 | 137 => 93 | 119 => 145 | 224 => 137 | 225 => 136 | 217 => 113 | 266 => 135 | n => n, fun | 9 => 9 | 4 => 4 | 3 => 3 | 5 => 5 | 117 => 132 | 116 => 131 | 0 => 0 | 124 => 135 | 21 => 21 | 105 => 151 | 46 => 114 | 119 => 178 | 139 => 181 | 138 => 180 | n => n, fun | 3 => 4 | 4 => 5 | n => n⟩
theorem Tryz.lays160 : Go.Proofs.Lays.n160 Tryz.prog Tryz.lays160_ren := {
  mixed := by kernel_rfl
  f119 := Tryz.func145.trans (congrArg some (by kernel_rfl))
  f120 := Tryz.func134.trans (congrArg some (by kernel_rfl))
  f137 := Tryz.func93.trans (congrArg some (by kernel_rfl))
  f151 := Tryz.func111.trans (congrArg some (by kernel_rfl))
  f152 := Tryz.func133.trans (congrArg some (by kernel_rfl))
  f160 := Tryz.func75.trans (congrArg some (by kernel_rfl))
  f197 := Tryz.func110.trans (congrArg some (by kernel_rfl))
  f217 := Tryz.func113.trans (congrArg some (by kernel_rfl))
  f224 := Tryz.func137.trans (congrArg some (by kernel_rfl))
  f225 := Tryz.func136.trans (congrArg some (by kernel_rfl))
  f227 := Tryz.func87.trans (congrArg some (by kernel_rfl))
  f228 := Tryz.func109.trans (congrArg some (by kernel_rfl))
  f231 := Tryz.func85.trans (congrArg some (by kernel_rfl))
  f232 := Tryz.func86.trans (congrArg some (by kernel_rfl))
  f233 := Tryz.func88.trans (congrArg some (by kernel_rfl))
  f234 := Tryz.func89.trans (congrArg some (by kernel_rfl))
  f235 := Tryz.func90.trans (congrArg some (by kernel_rfl))
  f236 := Tryz.func91.trans (congrArg some (by kernel_rfl))
  f260 := Tryz.func132.trans (congrArg some (by kernel_rfl))
  f266 := Tryz.func135.trans (congrArg some (by kernel_rfl))
  f271 := Tryz.func112.trans (congrArg some (by kernel_rfl))
  t0 := Tryz.underlying0
  a0 := Tryz.isAgg0
  z0 := Tryz.sizeOf0
  v0 := Tryz.zeroValue0
  t3 := Tryz.underlying3
  a3 := Tryz.isAgg3
  z3 := Tryz.sizeOf3
  v3 := Tryz.zeroValue3
  t4 := Tryz.underlying4
  a4 := Tryz.isAgg4
  z4 := Tryz.sizeOf4
  v4 := Tryz.zeroValue4
  t5 := Tryz.underlying5
  a5 := Tryz.isAgg5
  z5 := Tryz.sizeOf5
  v5 := Tryz.zeroValue5
  t9 := Tryz.underlying9
  a9 := Tryz.isAgg9
  z9 := Tryz.sizeOf9
  v9 := Tryz.zeroValue9
  t21 := Tryz.underlying21
  a21 := Tryz.isAgg21
  z21 := Tryz.sizeOf21
  v21 := Tryz.zeroValue21
  t46 := Tryz.underlying114
  a46 := Tryz.isAgg114
  z46 := Tryz.sizeOf114
  v46 := Tryz.zeroValue114
  t105 := Tryz.underlying151
  a105 := Tryz.isAgg151
  z105 := Tryz.sizeOf151
  v105 := Tryz.zeroValue151
  t116 := Tryz.underlying131
  a116 := Tryz.isAgg131
  z116 := Tryz.sizeOf131
  t117 := Tryz.underlying132
  a117 := Tryz.isAgg132
  z117 := Tryz.sizeOf132
  v117 := Tryz.zeroValue132
  t119 := Tryz.underlying178
  a119 := Tryz.isAgg178
  z119 := Tryz.sizeOf178
  t124 := Tryz.underlying135
  a124 := Tryz.isAgg135
  z124 := Tryz.sizeOf135
  v124 := Tryz.zeroValue135
  t138 := Tryz.underlying180
  a138 := Tryz.isAgg180
  z138 := Tryz.sizeOf180
  v138 := Tryz.zeroValue180
  t139 := Tryz.underlying181
  a139 := Tryz.isAgg181
  z139 := Tryz.sizeOf181
  v139 := Tryz.zeroValue181
  g3 := by kernel_rfl
  g4 := by kernel_rfl }
def Tryz.lays137_ren : Go.Shelf.Ren := ⟨fun | 137 => 93 | 217 => 113 | 266 => 135 | n => n, fun | 9 => 9 | 5 => 5 | 3 => 3 | n => n, fun | n => n⟩
theorem Tryz.lays137 : Go.Proofs.Lays.n137 Tryz.prog Tryz.lays137_ren := {
  mixed := by kernel_rfl
  f137 := Tryz.func93.trans (congrArg some (by kernel_rfl))
  f217 := Tryz.func113.trans (congrArg some (by kernel_rfl))
  f266 := Tryz.func135.trans (congrArg some (by kernel_rfl))
  t3 := Tryz.underlying3
  a3 := Tryz.isAgg3
  z3 := Tryz.sizeOf3
  v3 := Tryz.zeroValue3
  t5 := Tryz.underlying5
  a5 := Tryz.isAgg5
  z5 := Tryz.sizeOf5
  v5 := Tryz.zeroValue5
  t9 := Tryz.underlying9
  a9 := Tryz.isAgg9
  z9 := Tryz.sizeOf9
  v9 := Tryz.zeroValue9 }
open Go.RowKit in
theorem Tryz.strings_IndexByte (s : ByteArray) (c : Int) (w : World) :
    Calls Tryz.prog 93 #[.string s, .int .u8 c] w fun e w' => e = .returned (.int .i64 (Lib.indexByte s.data.toList c.toNat.toUInt8)) ∧ w' = w := Any.strings_IndexByte Tryz.lays137 s c w
open Go.RowKit in
theorem Tryz.Builder_String_any_k (B b : Nat) (l : List UInt8) (w : World) (h : Lib.IsBuilderF 100 5 B b (Lib.byteCells l) w) (hBw : B ≤ w.heap.size) :
    Calls Tryz.prog 63 #[.pointer (some ⟨b, 0, none⟩)] w fun e w' => e = .returned (.string ⟨l.toArray⟩) ∧ (Lib.IsBuilderF 100 5 B b (Lib.byteCells l) w' ∧ Below B w w' ∧ Lib.OthersKept 5 (some b) w w') := Any.Builder_String_any_k Tryz.lays169 Tryz.Builder_Extra_169 B b l w h hBw
def Tryz.laysM171_ren : Go.Shelf.Ren := ⟨fun | 171 => 62 | 243 => 73 | 246 => 82 | 283 => 100 | 284 => 101 | 285 => 102 | 286 => 103 | 129 => 124 | 317 => 123 | 318 => 125 | 319 => 126 | 320 => 127 | 337 => 142 | 338 => 143 | n => n, fun | 3 => 3 | 9 => 9 | 2 => 2 | 4 => 4 | 171 => 140 | 0 => 0 | 53 => 127 | 37 => 53 | 5 => 5 | 173 => 143 | 212 => 163 | 51 => 119 | 20 => 20 | 213 => 164 | 46 => 114 | 232 => 188 | 233 => 189 | n => n, fun | 17 => 0 | 18 => 6 | 19 => 7 | n => n⟩
theorem Tryz.laysM171 : Go.Proofs.LaysM.n171 Tryz.prog Tryz.laysM171_ren := {
  mixed := by kernel_rfl
  f129 := Tryz.func124.trans (congrArg some (by kernel_rfl))
  f171 := Tryz.func62.trans (congrArg some (by kernel_rfl))
  f243 := Tryz.func73.trans (congrArg some (by kernel_rfl))
  f246 := Tryz.func82.trans (congrArg some (by kernel_rfl))
  f283 := Tryz.func100.trans (congrArg some (by kernel_rfl))
  f284 := Tryz.func101.trans (congrArg some (by kernel_rfl))
  f285 := Tryz.func102.trans (congrArg some (by kernel_rfl))
  f286 := Tryz.func103.trans (congrArg some (by kernel_rfl))
  f317 := Tryz.func123.trans (congrArg some (by kernel_rfl))
  f318 := Tryz.func125.trans (congrArg some (by kernel_rfl))
  f319 := Tryz.func126.trans (congrArg some (by kernel_rfl))
  f320 := Tryz.func127.trans (congrArg some (by kernel_rfl))
  f337 := Tryz.func142.trans (congrArg some (by kernel_rfl))
  f338 := Tryz.func143.trans (congrArg some (by kernel_rfl))
  t0 := Tryz.underlying0
  a0 := Tryz.isAgg0
  z0 := Tryz.sizeOf0
  v0 := Tryz.zeroValue0
  t2 := Tryz.underlying2
  a2 := Tryz.isAgg2
  z2 := Tryz.sizeOf2
  v2 := Tryz.zeroValue2
  t3 := Tryz.underlying3
  a3 := Tryz.isAgg3
  z3 := Tryz.sizeOf3
  v3 := Tryz.zeroValue3
  t4 := Tryz.underlying4
  a4 := Tryz.isAgg4
  z4 := Tryz.sizeOf4
  v4 := Tryz.zeroValue4
  t5 := Tryz.underlying5
  a5 := Tryz.isAgg5
  z5 := Tryz.sizeOf5
  v5 := Tryz.zeroValue5
  t9 := Tryz.underlying9
  a9 := Tryz.isAgg9
  z9 := Tryz.sizeOf9
  v9 := Tryz.zeroValue9
  t20 := Tryz.underlying20
  a20 := Tryz.isAgg20
  z20 := Tryz.sizeOf20
  v20 := Tryz.zeroValue20
  t37 := Tryz.underlying53
  a37 := Tryz.isAgg53
  z37 := Tryz.sizeOf53
  v37 := Tryz.zeroValue53
  t46 := Tryz.underlying114
  a46 := Tryz.isAgg114
  z46 := Tryz.sizeOf114
  v46 := Tryz.zeroValue114
  t51 := Tryz.underlying119
  a51 := Tryz.isAgg119
  z51 := Tryz.sizeOf119
  v51 := Tryz.zeroValue119
  t53 := Tryz.underlying127
  a53 := Tryz.isAgg127
  z53 := Tryz.sizeOf127
  v53 := Tryz.zeroValue127
  t171 := Tryz.underlying140
  a171 := Tryz.isAgg140
  z171 := Tryz.sizeOf140
  v171 := Tryz.zeroValue140
  t173 := Tryz.underlying143
  a173 := Tryz.isAgg143
  z173 := Tryz.sizeOf143
  v173 := Tryz.zeroValue143
  t212 := Tryz.underlying163
  a212 := Tryz.isAgg163
  z212 := Tryz.sizeOf163
  v212 := Tryz.zeroValue163
  t213 := Tryz.underlying164
  a213 := Tryz.isAgg164
  z213 := Tryz.sizeOf164
  t232 := Tryz.underlying188
  a232 := Tryz.isAgg188
  z232 := Tryz.sizeOf188
  v232 := Tryz.zeroValue188
  t233 := Tryz.underlying189
  a233 := Tryz.isAgg189
  z233 := Tryz.sizeOf189
  v233 := Tryz.zeroValue189
  g17 := by kernel_rfl
  g18 := by kernel_rfl
  g19 := by kernel_rfl
  i0 := by kernel_rfl
  i2 := by kernel_rfl
  i3 := by kernel_rfl
  i4 := by kernel_rfl
  i5 := by kernel_rfl
  i9 := by kernel_rfl
  i20 := by kernel_rfl
  i37 := by kernel_rfl
  i46 := by kernel_rfl
  i51 := by kernel_rfl
  i53 := by kernel_rfl
  i171 := by kernel_rfl
  i173 := by kernel_rfl
  i212 := by kernel_rfl
  i232 := by kernel_rfl
  i233 := by kernel_rfl
  m17 := by kernel_rfl
  m18 := by kernel_rfl
  m19 := by kernel_rfl }
open Go.RowKit Go.Sort Go.Lib in
theorem Tryz.strconv_Itoa (n : Int) (h0 : -9223372036854775808 ≤ n) (h1 : n ≤ 9223372036854775807) (w : World) (htab : Lib.TabIs Tryz.prog w "internal/strconv.uint64pow10" .u64 Lib.pow10Tab) :
    Calls Tryz.prog 62 #[.int .i64 n] w fun e w' => e = .returned (.string ⟨(Lib.itoa n).toArray⟩) ∧ ∃ k os, w' = grow (w.drewN k) os := Any.strconv_Itoa Tryz.laysM171 n h0 h1 w htab
def Tryz.laysC172_ren : Go.Shelf.Ren := ⟨fun | 172 => 80 | 244 => 98 | 245 => 99 | 247 => 118 | 279 => 119 | 280 => 120 | 281 => 121 | 282 => 122 | 287 => 139 | 316 => 140 | 171 => 62 | 205 => 141 | 321 => 147 | 322 => 148 | 243 => 73 | 246 => 82 | 283 => 100 | 284 => 101 | 285 => 102 | 286 => 103 | 129 => 124 | 317 => 123 | 318 => 125 | 319 => 126 | 320 => 127 | 337 => 142 | 338 => 143 | n => n, fun | 9 => 9 | 3 => 3 | 75 => 102 | 76 => 103 | 4 => 4 | 5 => 5 | 167 => 155 | 37 => 53 | 0 => 0 | 85 => 156 | 2 => 2 | 168 => 158 | 53 => 127 | 175 => 171 | 46 => 114 | 210 => 174 | 127 => 118 | 145 => 187 | 143 => 185 | 21 => 21 | 171 => 140 | 173 => 143 | 212 => 163 | 51 => 119 | 20 => 20 | 213 => 164 | 232 => 188 | 233 => 189 | 80 => 106 | n => n, fun | 15 => 2 | 16 => 3 | 17 => 0 | 18 => 6 | 19 => 7 | n => n⟩
theorem Tryz.laysC172 : Go.Proofs.LaysC.n172 Tryz.prog Tryz.laysC172_ren := {
  mixed := by kernel_rfl
  f129 := Tryz.func124.trans (congrArg some (by kernel_rfl))
  f171 := Tryz.func62.trans (congrArg some (by kernel_rfl))
  f172 := Tryz.func80.trans (congrArg some (by kernel_rfl))
  f205 := Tryz.func141.trans (congrArg some (by kernel_rfl))
  f243 := Tryz.func73.trans (congrArg some (by kernel_rfl))
  f244 := Tryz.func98.trans (congrArg some (by kernel_rfl))
  f245 := Tryz.func99.trans (congrArg some (by kernel_rfl))
  f246 := Tryz.func82.trans (congrArg some (by kernel_rfl))
  f247 := Tryz.func118.trans (congrArg some (by kernel_rfl))
  f279 := Tryz.func119.trans (congrArg some (by kernel_rfl))
  f280 := Tryz.func120.trans (congrArg some (by kernel_rfl))
  f281 := Tryz.func121.trans (congrArg some (by kernel_rfl))
  f282 := Tryz.func122.trans (congrArg some (by kernel_rfl))
  f283 := Tryz.func100.trans (congrArg some (by kernel_rfl))
  f284 := Tryz.func101.trans (congrArg some (by kernel_rfl))
  f285 := Tryz.func102.trans (congrArg some (by kernel_rfl))
  f286 := Tryz.func103.trans (congrArg some (by kernel_rfl))
  f287 := Tryz.func139.trans (congrArg some (by kernel_rfl))
  f316 := Tryz.func140.trans (congrArg some (by kernel_rfl))
  f317 := Tryz.func123.trans (congrArg some (by kernel_rfl))
  f318 := Tryz.func125.trans (congrArg some (by kernel_rfl))
  f319 := Tryz.func126.trans (congrArg some (by kernel_rfl))
  f320 := Tryz.func127.trans (congrArg some (by kernel_rfl))
  f321 := Tryz.func147.trans (congrArg some (by kernel_rfl))
  f322 := Tryz.func148.trans (congrArg some (by kernel_rfl))
  f337 := Tryz.func142.trans (congrArg some (by kernel_rfl))
  f338 := Tryz.func143.trans (congrArg some (by kernel_rfl))
  t0 := Tryz.underlying0
  a0 := Tryz.isAgg0
  z0 := Tryz.sizeOf0
  v0 := Tryz.zeroValue0
  t2 := Tryz.underlying2
  a2 := Tryz.isAgg2
  z2 := Tryz.sizeOf2
  v2 := Tryz.zeroValue2
  t3 := Tryz.underlying3
  a3 := Tryz.isAgg3
  z3 := Tryz.sizeOf3
  v3 := Tryz.zeroValue3
  t4 := Tryz.underlying4
  a4 := Tryz.isAgg4
  z4 := Tryz.sizeOf4
  v4 := Tryz.zeroValue4
  t5 := Tryz.underlying5
  a5 := Tryz.isAgg5
  z5 := Tryz.sizeOf5
  v5 := Tryz.zeroValue5
  t9 := Tryz.underlying9
  a9 := Tryz.isAgg9
  z9 := Tryz.sizeOf9
  v9 := Tryz.zeroValue9
  t20 := Tryz.underlying20
  a20 := Tryz.isAgg20
  z20 := Tryz.sizeOf20
  v20 := Tryz.zeroValue20
  t21 := Tryz.underlying21
  a21 := Tryz.isAgg21
  z21 := Tryz.sizeOf21
  v21 := Tryz.zeroValue21
  t37 := Tryz.underlying53
  a37 := Tryz.isAgg53
  z37 := Tryz.sizeOf53
  v37 := Tryz.zeroValue53
  t46 := Tryz.underlying114
  a46 := Tryz.isAgg114
  z46 := Tryz.sizeOf114
  v46 := Tryz.zeroValue114
  t51 := Tryz.underlying119
  a51 := Tryz.isAgg119
  z51 := Tryz.sizeOf119
  v51 := Tryz.zeroValue119
  t53 := Tryz.underlying127
  a53 := Tryz.isAgg127
  z53 := Tryz.sizeOf127
  v53 := Tryz.zeroValue127
  t75 := Tryz.underlying102
  a75 := Tryz.isAgg102
  z75 := Tryz.sizeOf102
  v75 := Tryz.zeroValue102
  t76 := Tryz.underlying103
  a76 := Tryz.isAgg103
  z76 := Tryz.sizeOf103
  v76 := Tryz.zeroValue103
  t85 := Tryz.underlying156
  a85 := Tryz.isAgg156
  z85 := Tryz.sizeOf156
  v85 := Tryz.zeroValue156
  t127 := Tryz.underlying118
  a127 := Tryz.isAgg118
  z127 := Tryz.sizeOf118
  v127 := Tryz.zeroValue118
  t143 := Tryz.underlying185
  a143 := Tryz.isAgg185
  z143 := Tryz.sizeOf185
  v143 := Tryz.zeroValue185
  t145 := Tryz.underlying187
  a145 := Tryz.isAgg187
  z145 := Tryz.sizeOf187
  v145 := Tryz.zeroValue187
  t167 := Tryz.underlying155
  a167 := Tryz.isAgg155
  z167 := Tryz.sizeOf155
  v167 := Tryz.zeroValue155
  t168 := Tryz.underlying158
  a168 := Tryz.isAgg158
  z168 := Tryz.sizeOf158
  v168 := Tryz.zeroValue158
  t171 := Tryz.underlying140
  a171 := Tryz.isAgg140
  z171 := Tryz.sizeOf140
  v171 := Tryz.zeroValue140
  t173 := Tryz.underlying143
  a173 := Tryz.isAgg143
  z173 := Tryz.sizeOf143
  v173 := Tryz.zeroValue143
  t175 := Tryz.underlying171
  a175 := Tryz.isAgg171
  z175 := Tryz.sizeOf171
  v175 := Tryz.zeroValue171
  t210 := Tryz.underlying174
  a210 := Tryz.isAgg174
  z210 := Tryz.sizeOf174
  v210 := Tryz.zeroValue174
  t212 := Tryz.underlying163
  a212 := Tryz.isAgg163
  z212 := Tryz.sizeOf163
  v212 := Tryz.zeroValue163
  t213 := Tryz.underlying164
  a213 := Tryz.isAgg164
  z213 := Tryz.sizeOf164
  t232 := Tryz.underlying188
  a232 := Tryz.isAgg188
  z232 := Tryz.sizeOf188
  v232 := Tryz.zeroValue188
  t233 := Tryz.underlying189
  a233 := Tryz.isAgg189
  z233 := Tryz.sizeOf189
  v233 := Tryz.zeroValue189
  g15 := by kernel_rfl
  g16 := by kernel_rfl
  g17 := by kernel_rfl
  g18 := by kernel_rfl
  g19 := by kernel_rfl
  t80 := Tryz.underlying106
  a80 := Tryz.isAgg106
  z80 := Tryz.sizeOf106
  v80 := Tryz.zeroValue106
  i0 := by kernel_rfl
  i2 := by kernel_rfl
  i3 := by kernel_rfl
  i4 := by kernel_rfl
  i5 := by kernel_rfl
  i9 := by kernel_rfl
  i20 := by kernel_rfl
  i21 := by kernel_rfl
  i37 := by kernel_rfl
  i46 := by kernel_rfl
  i51 := by kernel_rfl
  i53 := by kernel_rfl
  i75 := by kernel_rfl
  i76 := by kernel_rfl
  i80 := by kernel_rfl
  i85 := by kernel_rfl
  i127 := by kernel_rfl
  i143 := by kernel_rfl
  i145 := by kernel_rfl
  i167 := by kernel_rfl
  i168 := by kernel_rfl
  i171 := by kernel_rfl
  i173 := by kernel_rfl
  i175 := by kernel_rfl
  i210 := by kernel_rfl
  i212 := by kernel_rfl
  i232 := by kernel_rfl
  i233 := by kernel_rfl
  m15 := by kernel_rfl
  m16 := by kernel_rfl
  m17 := by kernel_rfl
  m18 := by kernel_rfl
  m19 := by kernel_rfl
  c0 := by kernel_rfl
  c2 := by kernel_rfl
  c3 := by kernel_rfl
  c4 := by kernel_rfl
  c5 := by kernel_rfl
  c9 := by kernel_rfl
  c20 := by kernel_rfl
  c21 := by kernel_rfl
  c37 := by kernel_rfl
  c46 := by kernel_rfl
  c51 := by kernel_rfl
  c53 := by kernel_rfl
  c75 := by kernel_rfl
  c76 := by kernel_rfl
  c80 := by kernel_rfl
  c85 := by kernel_rfl
  c127 := by kernel_rfl
  c143 := by kernel_rfl
  c145 := by kernel_rfl
  c167 := by kernel_rfl
  c168 := by kernel_rfl
  c171 := by kernel_rfl
  c173 := by kernel_rfl
  c175 := by kernel_rfl
  c210 := by kernel_rfl
  c212 := by kernel_rfl
  c213 := by kernel_rfl
  c232 := by kernel_rfl
  c233 := by kernel_rfl }
open Go.RowKit in
theorem Tryz.strconv_Atoi_ok (s : ByteArray) (hmax : s.size ≤ 9223372036854775806) (v : Int) (h : Lib.atoiAll s.data.toList = .ok v) (w : World) :
    Calls Tryz.prog 80 #[.string s] w fun e w' => e = .returned (.tuple #[.int .i64 v, .nilIface]) ∧ (w' = w ∨ ∃ t, w' = Lib.bytesWorld w 5 t) := Any.strconv_Atoi_ok Tryz.laysC172 s hmax v h w
open Go.RowKit in
theorem Tryz.strconv_Atoi_range (s : ByteArray) (hlim : s.size ≤ 281474976710656) (h : Lib.atoiAll s.data.toList = .range) (ev : Value) (w : World) (hv : w.cell? ⟨3, 0, none⟩ = some ev) (hev : ev = .nilIface ∨ ∃ te pe, ev = .iface te pe) :
    Calls Tryz.prog 80 #[.string s] w fun e w' => ∃ N, e = .returned (.tuple #[.int .i64 (Lib.atoiSat s.data.toList), .iface 158 (.pointer (some ⟨N, 0, none⟩))]) ∧ w.heap.size ≤ N ∧ w'.heap[N]? = some (.cells #[.string ⟨#[65, 116, 111, 105]⟩, .string s, ev] 174 (0, 0)) ∧ Below w.heap.size w w' := Any.strconv_Atoi_range Tryz.laysC172 s hlim h ev w hv hev
def Tryz.lays102_ren : Go.Shelf.Ren := ⟨fun | 102 => 78 | 209 => 94 | 207 => 114 | n => n, fun | 9 => 9 | 4 => 4 | 3 => 3 | n => n, fun | n => n⟩
theorem Tryz.lays102 : Go.Proofs.Lays.n102 Tryz.prog Tryz.lays102_ren := {
  mixed := by kernel_rfl
  f102 := Tryz.func78.trans (congrArg some (by kernel_rfl))
  f207 := Tryz.func114.trans (congrArg some (by kernel_rfl))
  f209 := Tryz.func94.trans (congrArg some (by kernel_rfl))
  t3 := Tryz.underlying3
  a3 := Tryz.isAgg3
  z3 := Tryz.sizeOf3
  v3 := Tryz.zeroValue3
  t4 := Tryz.underlying4
  a4 := Tryz.isAgg4
  z4 := Tryz.sizeOf4
  v4 := Tryz.zeroValue4
  t9 := Tryz.underlying9
  a9 := Tryz.isAgg9
  z9 := Tryz.sizeOf9
  v9 := Tryz.zeroValue9 }
open Go.RowKit Go.Lib in
theorem Tryz.strings_TrimSuffix (s p : ByteArray) (w : World) (hs : s.size ≤ 9223372036854775807) :
    Calls Tryz.prog 78 #[.string s, .string p] w fun e w' => e = .returned (.string ⟨(Lib.trimSuffix s.data.toList p.data.toList).toArray⟩) ∧ w' = w := Any.strings_TrimSuffix Tryz.lays102 s p w hs
def Tryz.lays146_ren : Go.Shelf.Ren := ⟨fun | 146 => 67 | 221 => 79 | 268 => 95 | 138 => 96 | 143 => 97 | 195 => 115 | 197 => 110 | 218 => 116 | 219 => 117 | 260 => 132 | 217 => 113 | 225 => 136 | 224 => 137 | 267 => 138 | 266 => 135 | 314 => 146 | n => n, fun | 9 => 9 | 31 => 111 | 3 => 3 | 4 => 4 | 0 => 0 | 105 => 151 | 21 => 21 | 5 => 5 | 46 => 114 | 119 => 178 | 139 => 181 | 138 => 180 | 146 => 166 | 51 => 119 | n => n, fun | 1 => 1 | 3 => 4 | 4 => 5 | n => n⟩
theorem Tryz.lays146 : Go.Proofs.Lays.n146 Tryz.prog Tryz.lays146_ren := {
  mixed := by kernel_rfl
  f138 := Tryz.func96.trans (congrArg some (by kernel_rfl))
  f143 := Tryz.func97.trans (congrArg some (by kernel_rfl))
  f146 := Tryz.func67.trans (congrArg some (by kernel_rfl))
  f195 := Tryz.func115.trans (congrArg some (by kernel_rfl))
  f197 := Tryz.func110.trans (congrArg some (by kernel_rfl))
  f217 := Tryz.func113.trans (congrArg some (by kernel_rfl))
  f218 := Tryz.func116.trans (congrArg some (by kernel_rfl))
  f219 := Tryz.func117.trans (congrArg some (by kernel_rfl))
  f221 := Tryz.func79.trans (congrArg some (by kernel_rfl))
  f224 := Tryz.func137.trans (congrArg some (by kernel_rfl))
  f225 := Tryz.func136.trans (congrArg some (by kernel_rfl))
  f260 := Tryz.func132.trans (congrArg some (by kernel_rfl))
  f266 := Tryz.func135.trans (congrArg some (by kernel_rfl))
  f267 := Tryz.func138.trans (congrArg some (by kernel_rfl))
  f268 := Tryz.func95.trans (congrArg some (by kernel_rfl))
  f314 := Tryz.func146.trans (congrArg some (by kernel_rfl))
  t0 := Tryz.underlying0
  a0 := Tryz.isAgg0
  z0 := Tryz.sizeOf0
  v0 := Tryz.zeroValue0
  t3 := Tryz.underlying3
  a3 := Tryz.isAgg3
  z3 := Tryz.sizeOf3
  v3 := Tryz.zeroValue3
  t4 := Tryz.underlying4
  a4 := Tryz.isAgg4
  z4 := Tryz.sizeOf4
  v4 := Tryz.zeroValue4
  t5 := Tryz.underlying5
  a5 := Tryz.isAgg5
  z5 := Tryz.sizeOf5
  v5 := Tryz.zeroValue5
  t9 := Tryz.underlying9
  a9 := Tryz.isAgg9
  z9 := Tryz.sizeOf9
  v9 := Tryz.zeroValue9
  t21 := Tryz.underlying21
  a21 := Tryz.isAgg21
  z21 := Tryz.sizeOf21
  v21 := Tryz.zeroValue21
  t31 := Tryz.underlying111
  a31 := Tryz.isAgg111
  z31 := Tryz.sizeOf111
  v31 := Tryz.zeroValue111
  t46 := Tryz.underlying114
  a46 := Tryz.isAgg114
  z46 := Tryz.sizeOf114
  v46 := Tryz.zeroValue114
  t51 := Tryz.underlying119
  a51 := Tryz.isAgg119
  z51 := Tryz.sizeOf119
  v51 := Tryz.zeroValue119
  t105 := Tryz.underlying151
  a105 := Tryz.isAgg151
  z105 := Tryz.sizeOf151
  v105 := Tryz.zeroValue151
  t119 := Tryz.underlying178
  a119 := Tryz.isAgg178
  z119 := Tryz.sizeOf178
  t138 := Tryz.underlying180
  a138 := Tryz.isAgg180
  z138 := Tryz.sizeOf180
  v138 := Tryz.zeroValue180
  t139 := Tryz.underlying181
  a139 := Tryz.isAgg181
  z139 := Tryz.sizeOf181
  v139 := Tryz.zeroValue181
  t146 := Tryz.underlying166
  a146 := Tryz.isAgg166
  z146 := Tryz.sizeOf166
  v146 := Tryz.zeroValue166
  g1 := by kernel_rfl
  g3 := by kernel_rfl
  g4 := by kernel_rfl }
open Go.RowKit Go.Lib in
theorem Tryz.strings_Split (s sep : ByteArray) (m : Int) (w : World) (hs : s.size < 4294967281) (hm : w.cell? ⟨1, 0, none⟩ = some (.int .i64 m)) (h1 : 1 ≤ sep.size) :
    Calls Tryz.prog 67 #[.string s, .string sep] w fun e w' =>
      e = .returned (.slice (some ⟨w.heap.size, 0, none⟩) (Lib.countB s sep + 1) (Lib.countB s sep + 1)) ∧ w' = w.alloc (.cells ((Lib.splitB sep 0 (Lib.countB s sep) s).map Value.string).toArray 9) := Any.strings_Split Tryz.lays146 (by kernel_rfl) s sep m w hs hm h1
def Tryz.lays105_ren : Go.Shelf.Ren := ⟨fun | 105 => 84 | 212 => 105 | 99 => 106 | 165 => 107 | 166 => 60 | 170 => 108 | 169 => 63 | 263 => 128 | 264 => 129 | 206 => 130 | 240 => 72 | 241 => 131 | 276 => 81 | 277 => 144 | n => n, fun | 9 => 9 | 3 => 3 | 4 => 4 | 20 => 20 | 0 => 0 | 46 => 114 | 109 => 145 | 5 => 5 | 72 => 100 | 76 => 103 | 51 => 119 | 146 => 166 | 53 => 127 | 148 => 168 | 70 => 98 | 37 => 53 | 75 => 102 | 127 => 118 | 164 => 123 | 80 => 106 | n => n, fun | n => n⟩
theorem Tryz.lays105 : Go.Proofs.Lays.n105 Tryz.prog Tryz.lays105_ren := {
  mixed := by kernel_rfl
  f99 := Tryz.func106.trans (congrArg some (by kernel_rfl))
  f105 := Tryz.func84.trans (congrArg some (by kernel_rfl))
  f165 := Tryz.func107.trans (congrArg some (by kernel_rfl))
  f166 := Tryz.func60.trans (congrArg some (by kernel_rfl))
  f169 := Tryz.func63.trans (congrArg some (by kernel_rfl))
  f170 := Tryz.func108.trans (congrArg some (by kernel_rfl))
  f206 := Tryz.func130.trans (congrArg some (by kernel_rfl))
  f212 := Tryz.func105.trans (congrArg some (by kernel_rfl))
  f240 := Tryz.func72.trans (congrArg some (by kernel_rfl))
  f241 := Tryz.func131.trans (congrArg some (by kernel_rfl))
  f263 := Tryz.func128.trans (congrArg some (by kernel_rfl))
  f264 := Tryz.func129.trans (congrArg some (by kernel_rfl))
  f276 := Tryz.func81.trans (congrArg some (by kernel_rfl))
  f277 := Tryz.func144.trans (congrArg some (by kernel_rfl))
  t0 := Tryz.underlying0
  a0 := Tryz.isAgg0
  z0 := Tryz.sizeOf0
  v0 := Tryz.zeroValue0
  t3 := Tryz.underlying3
  a3 := Tryz.isAgg3
  z3 := Tryz.sizeOf3
  v3 := Tryz.zeroValue3
  t4 := Tryz.underlying4
  a4 := Tryz.isAgg4
  z4 := Tryz.sizeOf4
  v4 := Tryz.zeroValue4
  t5 := Tryz.underlying5
  a5 := Tryz.isAgg5
  z5 := Tryz.sizeOf5
  v5 := Tryz.zeroValue5
  t9 := Tryz.underlying9
  a9 := Tryz.isAgg9
  z9 := Tryz.sizeOf9
  v9 := Tryz.zeroValue9
  t20 := Tryz.underlying20
  a20 := Tryz.isAgg20
  z20 := Tryz.sizeOf20
  v20 := Tryz.zeroValue20
  t37 := Tryz.underlying53
  a37 := Tryz.isAgg53
  z37 := Tryz.sizeOf53
  v37 := Tryz.zeroValue53
  t46 := Tryz.underlying114
  a46 := Tryz.isAgg114
  z46 := Tryz.sizeOf114
  v46 := Tryz.zeroValue114
  t51 := Tryz.underlying119
  a51 := Tryz.isAgg119
  z51 := Tryz.sizeOf119
  v51 := Tryz.zeroValue119
  t53 := Tryz.underlying127
  a53 := Tryz.isAgg127
  z53 := Tryz.sizeOf127
  v53 := Tryz.zeroValue127
  t70 := Tryz.underlying98
  a70 := Tryz.isAgg98
  z70 := Tryz.sizeOf98
  v70 := Tryz.zeroValue98
  t72 := Tryz.underlying100
  a72 := Tryz.isAgg100
  z72 := Tryz.sizeOf100
  v72 := Tryz.zeroValue100
  t75 := Tryz.underlying102
  a75 := Tryz.isAgg102
  z75 := Tryz.sizeOf102
  v75 := Tryz.zeroValue102
  t76 := Tryz.underlying103
  a76 := Tryz.isAgg103
  z76 := Tryz.sizeOf103
  v76 := Tryz.zeroValue103
  t109 := Tryz.underlying145
  a109 := Tryz.isAgg145
  z109 := Tryz.sizeOf145
  v109 := Tryz.zeroValue145
  t127 := Tryz.underlying118
  a127 := Tryz.isAgg118
  z127 := Tryz.sizeOf118
  v127 := Tryz.zeroValue118
  t146 := Tryz.underlying166
  a146 := Tryz.isAgg166
  z146 := Tryz.sizeOf166
  v146 := Tryz.zeroValue166
  t148 := Tryz.underlying168
  a148 := Tryz.isAgg168
  z148 := Tryz.sizeOf168
  v148 := Tryz.zeroValue168
  t164 := Tryz.underlying123
  a164 := Tryz.isAgg123
  z164 := Tryz.sizeOf123
  v164 := Tryz.zeroValue123 }
theorem Tryz.Builder_Extra_105 : Builder.Extra Tryz.prog Tryz.lays105_ren := {
  sizeBuilder := by kernel_rfl
  liesBuilder := by kernel_rfl
  t5 := Tryz.underlying5
  a5 := Tryz.isAgg5
  z5 := Tryz.sizeOf5
  v5 := Tryz.zeroValue5
  infoByte := by kernel_rfl
  cellsByte := by kernel_rfl
  sizeByte := by kernel_rfl
  neB5 := by decide }
open Go.RowKit Go.Lib in
theorem Tryz.strings_Repeat (s : ByteArray) (c : Nat) (w : World) (hc : c ≤ 9223372036854775807) (hlen : s.size * c ≤ 140737488355328) :
    Calls Tryz.prog 84 #[.string s, .int .i64 c] w fun e w' => e = .returned (.string ⟨(Lib.repeatL s.data.toList c).toArray⟩) ∧ Below w.heap.size w w' := Any.strings_Repeat Tryz.lays105 Tryz.Builder_Extra_105 s c w hc hlen
end Go.Proofs
end

section
namespace Go.Proofs.YtndojpcjhkncgaaGreatDoor.Q
open Go Go.RowKit Go.Proofs.YtndojpcjhkncgaaGreatDoorW.PrintWords
set_option linter.unusedVariables false
set_option linter.unusedSimpArgs false
theorem tz_16 (w : World) (hG : GG w) : Calls Tryz.prog 143 #[.int .u64 16] w fun e w' => e = .returned (.int .i64 4) ∧ w' = w := by
  have hc := hG.low.cell named_low 15 (by decide)
  clear hG
  replace hc : w.cell? ⟨7, 15, none⟩ = some (.int .u8 4) := hc
  have key : IntKind.u64.wrap (bits BinOp.and IntKind.u64 16 (IntKind.u64.wrap (-16)) * 285870213051353865) / 288230376151711744 = 15 := by kernel_rfl
  go_enter Tryz.func143, Tryz.ntmps143
  go_wp2
  go_ret
  exact ⟨rfl, rfl⟩
theorem tzs_16 (w : World) (hG : GG w) : Calls Tryz.prog 127 #[.int .u64 16] w fun e w' => e = .returned (.int .i64 4) ∧ w' = w := by
  have h := tz_16 w hG
  clear hG
  go_enter Tryz.func127, Tryz.ntmps127
  go_wp2_with (go_at_call 143; refine h.mono ?_; rintro e w' ⟨rfl, rfl⟩)
  go_ret
  exact ⟨rfl, rfl⟩
theorem pow_16 (w : World) : Calls Tryz.prog 126 #[.int .i64 16] w fun e w' => e = .returned (.bool true) ∧ w' = w := by
  have key : (bits BinOp.and IntKind.i64 16 15 == 0) = true := by kernel_rfl
  go_enter Tryz.func126, Tryz.ntmps126
  go_wp2
  go_ret
  exact ⟨rfl, rfl⟩
theorem hexA_nil : Tryz.zeroCells164 = hexA [] := by kernel_rfl
theorem alen_110 : Tryz.prog.arrayLen 164 = 65 := by kernel_rfl
theorem elem_110 : Tryz.prog.elem 164 = 5 := by kernel_rfl
theorem under_110 : Tryz.prog.underlying 164 = some (.array (Tryz.prog.arrayLen 164) (Tryz.prog.elem 164)) := by kernel_rfl
theorem slice_110 (W : World) (b j : Nat) (h1 : 1 ≤ j) (h2 : j ≤ 65) : (Instr.sliceAt 164 (.pointer (some ⟨b, 0, none⟩)) (some (.int .i64 ((j : Int) - 1))) none none).run Tryz.prog W = .ok (.slice (some ⟨b, j - 1, none⟩) (66 - j) (66 - j)) W := by
  have hs : (sizeOf 5).run Tryz.prog W = .ok 1 W := by kernel_rfl
  have h := run_sliceAt_array_l (P := Tryz.prog) W 164 ⟨b, 0, none⟩ under_110 .i64 ((j : Int) - 1) (by omega) (by rw [alen_110]; omega)
  rw [h, elem_110, hs, alen_110]
  have e1 : ((j : Int) - 1).toNat = j - 1 := by omega
  have e2 : ¬ 65 = j - 1 := by omega
  simp only [Result.andThen, slicedAt, e1, if_neg e2, Nat.mul_one]
  rw [show 65 - (j - 1) = 66 - j by omega]
  unfold Addr.add
  by_cases e : j - 1 = 0
  · simp [e]
  · simp [e]
theorem conv_hex (w : World) (l : List UInt8) (h : l.length ≤ 65) : (convert 53 9 (.slice (some ⟨w.heap.size, 65 - l.length, none⟩) l.length l.length)).run Tryz.prog (w.alloc (.cells (hexA l) 164)) = .ok (.string ⟨l.toArray⟩) (w.alloc (.cells (hexA l) 164)) := by
  have hc := run_convert_bytes_arg (P := Tryz.prog) (w.alloc (.cells (hexA l) 164)) 53 5 Tryz.underlying53 Tryz.underlying5 w.heap.size (65 - l.length) l.length l.length (l.map fun b => (b.toNat : Int)) (by simp) (fun i hi => by
    exact (blk_cell (heap_alloc_new w (.cells (hexA l) 164)) (65 - l.length + i)).trans (hexA_cell l i h hi)) 9 Tryz.underlying9
  rw [hc, Lib.Lz.strOfNums_map]
set_option maxRecDepth 100000 in
theorem bits_16 (u : Nat) (hu : u < 4294967296) (w : World) (hG : GG w) :
    Calls Tryz.prog 103 #[.slice none 0 0, .int .u64 u, .int .i64 16, .bool false, .bool false] w fun e w' => e = .returned (.tuple #[.slice none 0 0, .string ⟨(hexL u).toArray⟩]) ∧ Below w.heap.size w w' := by
  have hz : GG (w.alloc (.cells Tryz.zeroCells164 164)) := hG.below ((Below.refl _ _).alloc (Nat.le_refl _) _)
  clear hG
  have hlen := hexL_length 7 u (by omega)
  go_enter Tryz.func103, Tryz.ntmps103
  go_wp2_with (first | (go_at_call 126; refine (pow_16 _).mono ?_; rintro e w' ⟨rfl, rfl⟩) | (go_at_call 127; refine (tzs_16 _ hz).mono ?_; rintro e w' ⟨rfl, rfl⟩))
  go_loopw [1, 13] (fun x y wr => ∃ (v j : Nat) (l : List UInt8), x = .int .u64 v ∧ y = .int .i64 j ∧ j + l.length = 65 ∧ v < 4294967296 ∧ Hid (hexL u = hexL v ++ l) ∧ wr = w.alloc (.cells (hexA l) 164)) (fun x _ _ => (intOf x).toNat)
  case atStart => exact ⟨u, 65, [], rfl, rfl, rfl, hu, by exact (by simp : hexL u = hexL u ++ []), by rw [hexA_nil]⟩
  case round =>
    obtain ⟨v, j, l, rfl, rfl, hj, hv, hl, rfl⟩ := hrel
    have hll : l.length ≤ 7 := by
      have h1 := congrArg List.length hl.out
      have h2 := hexL_length 7 v (by omega)
      rw [List.length_append] at h1
      omega
    have hlt : j - 1 < (hexA l).size := by rw [hexA_size l (by omega)]; omega
    have hb := heap_alloc_new w (.cells (hexA l) 164)
    have hc : (w.alloc (.cells (hexA l) 164)).cell? ⟨w.heap.size, j - 1, none⟩ = some (hexA l)[j - 1] := (blk_cell hb (j - 1)).trans (Array.getElem?_eq_getElem hlt)
    obtain ⟨x, hx⟩ : ∃ x, (hexA l)[j - 1] = x := ⟨_, rfl⟩
    rw [hx] at hc
    clear hx hlt
    have hf := blk_frozen hb (j - 1)
    clear hb
    have ha := and_15 v hv
    have hj1 : (j : Int) ≤ 65 := by omega
    have hj0 : (1 : Int) ≤ (j : Int) := by omega
    clear hlen
    by_cases h16 : 16 ≤ v
    · have hd := digs_at (v % 16) (by omega)
      have hset := hexA_set l j (dig (v % 16)) hj (by omega)
      have HJ := Lib.hid hj
      have HL := Lib.hid hll
      clear hj hll
      go_wp2
      have hj := HJ.out
      refine ⟨⟨v / 16, j - 1, dig (v % 16) :: l, by simp, ?_, by simp; omega, by omega, hexL_step u v l hl.out h16, rfl⟩, by simp [intOf]; omega⟩
      rw [show ((j - 1 : Nat) : Int) = (j : Int) - 1 by omega]
    · have hd := digs_at v (by omega)
      have hset := hexA_set l j (dig v) hj (by omega)
      have hsl := fun W => slice_110 W w.heap.size j (by omega) (by omega)
      have hcv := conv_hex w (dig v :: l) (by simp; omega)
      rw [show 65 - (dig v :: l).length = j - 1 by simp; omega, show (dig v :: l).length = 66 - j by simp; omega] at hcv
      have he := hexL_end u v l hl.out (by omega)
      have HE := Lib.hid he
      have HJ := Lib.hid hj
      have HL := Lib.hid hll
      clear hj hll he hl
      go_wp2
      go_ret2
      exact ⟨congrArg (fun z => Ending.returned (.tuple #[.slice none 0 0, .string ⟨List.toArray z⟩])) HE.out.symm, (Below.refl _ _).alloc (Nat.le_refl _) _⟩
theorem uint_16 (u : Nat) (hu : u < 4294967296) (w : World) (hG : GG w) :
    Calls Tryz.prog 104 #[.int .u64 u, .int .i64 16] w fun e w' => e = .returned (.string ⟨(hexL u).toArray⟩) ∧ Below w.heap.size w w' := by
  have H := Lib.hid (bits_16 u hu w hG)
  clear hG
  go_enter Tryz.func104, Tryz.ntmps104
  go_wp2_with (go_at_call 103; refine H.out.mono ?_; rintro e w' ⟨rfl, hb⟩)
  go_ret
  exact ⟨rfl, hb⟩
theorem FormatUint_16 (u : Nat) (hu : u < 4294967296) (w : World) (hG : GG w) :
    Calls Tryz.prog 83 #[.int .u64 u, .int .i64 16] w fun e w' => e = .returned (.string ⟨(hexL u).toArray⟩) ∧ Below w.heap.size w w' := by
  have H := Lib.hid (uint_16 u hu w hG)
  clear hG
  go_enter Tryz.func83, Tryz.ntmps83
  go_wp2_with (go_at_call 104; refine H.out.mono ?_; rintro e w' ⟨rfl, hb⟩)
  go_ret
  exact ⟨rfl, hb⟩
def hex8 (u : Nat) : List UInt8 := List.replicate (8 - (hexL u).length) 48 ++ hexL u
def bank_hex.f (a0 : Int) : Option ByteArray := if 0 ≤ a0 ∧ a0 < 4294967296 then some ⟨(hex8 a0.toNat).toArray⟩ else none
theorem rep_48 (n : Nat) : Lib.repeatL [48] n = List.replicate n (48 : UInt8) := by
  induction n with
  | zero => rfl
  | succ n ih => rw [Lib.repeatL, ih]; rfl
theorem hex8_eq (u : Nat) (s r : ByteArray) (hs : s = ⟨(hexL u).toArray⟩) (hr : r = ⟨(Lib.repeatL [48] (8 - s.size)).toArray⟩) : r ++ s = ⟨(hex8 u).toArray⟩ := by
  have hz : s.size = (hexL u).length := by rw [hs]; rfl
  rw [hr, hz, hs, rep_48]
  apply ByteArray.ext
  rw [ByteArray.data_append]
  simp [hex8]
theorem bank_hex.go (u : Nat) (hu : u < 4294967296) (w : World) (hG : GG w) :
    Calls Tryz.prog 74 #[.int .u32 u] w fun e w' => e = .returned (.string ⟨(hex8 u).toArray⟩) ∧ Below w.heap.size w w' := by
  obtain ⟨s, hs⟩ : ∃ s : ByteArray, s = ⟨(hexL u).toArray⟩ := ⟨_, rfl⟩
  obtain ⟨r, hr⟩ : ∃ r : ByteArray, r = ⟨(Lib.repeatL [48] (8 - s.size)).toArray⟩ := ⟨_, rfl⟩
  have hl := hexL_length 7 u (by omega)
  have hz : s.size = (hexL u).length := by rw [hs]; rfl
  have hsz : s.size ≤ 8 := by omega
  have hrz : r.size ≤ 8 := by
    rw [hr, rep_48]
    show (List.replicate (8 - s.size) (48 : UInt8)).toArray.size ≤ 8
    simp
  have h := FormatUint_16 u hu w hG
  rw [← hs] at h
  have h2 : ∀ W, Calls Tryz.prog 84 #[.string ⟨#[48]⟩, .int .i64 ((8 - s.size : Nat) : Int)] W fun e w' => e = .returned (.string r) ∧ Below W.heap.size W w' := by
    intro W
    rw [hr]
    exact Tryz.strings_Repeat ⟨#[48]⟩ (8 - s.size) W (by omega) (by show 1 * (8 - s.size) ≤ _; omega)
  have H := Lib.hid h
  have H2 := Lib.hid h2
  have HE := Lib.hid (hex8_eq u s r hs hr)
  clear h h2 hs hr hG hz hl
  go_enter Tryz.func74, Tryz.ntmps74
  go_wp2_with (go_at_call 83; refine H.out.mono ?_; rintro e w' ⟨rfl, hb⟩)
  rw [show (8 : Int) - (s.size : Int) = ((8 - s.size : Nat) : Int) by omega]
  refine (H2.out _).mono ?_
  rintro e w2 ⟨rfl, hb2⟩
  go_wp2_with fail
  go_ret
  exact ⟨by rw [← HE.out]; rfl, below_step hb hb2⟩
theorem bank_hex.calls (a0 : Int) (r : ByteArray) (w : World) (hG : GG w) (h : bank_hex.f a0 = some r) :
    Calls Tryz.prog 74 #[.int .u32 a0] w fun e w' => e = .returned (.string r) ∧ Below w.heap.size w w' := by
  unfold bank_hex.f at h
  split at h
  · rename_i h0
    obtain rfl := Option.some.inj h
    have := bank_hex.go a0.toNat (by omega) w hG
    rw [Int.toNat_of_nonneg h0.1] at this
    exact this
  · cases h
def strconv_Itoa.f (a0 : Int) : Option ByteArray := if -9223372036854775808 ≤ a0 ∧ a0 ≤ 9223372036854775807 then some ⟨(Lib.itoa a0).toArray⟩ else none
theorem strconv_Itoa.calls (a0 : Int) (r : ByteArray) (w : World) (hG : GG w) (h : strconv_Itoa.f a0 = some r) :
    Calls Tryz.prog 62 #[.int .i64 a0] w fun e w' => e = .returned (.string r) ∧ Below w.heap.size w w' := by
  unfold strconv_Itoa.f at h
  split at h
  · rename_i h0
    obtain rfl := Option.some.inj h
    refine (Tryz.strconv_Itoa a0 h0.1 h0.2 w hG.pow).mono ?_
    rintro e w' ⟨rfl, k, os, rfl⟩
    exact ⟨rfl, Lib.below_grow _ _ (Nat.le_refl _) _ _⟩
  · cases h
end Go.Proofs.YtndojpcjhkncgaaGreatDoor.Q
end

section
namespace Go.Proofs.YtndojpcjhkncgaaGreatDoor.Q
open Go Go.RowKit Go.Proofs.YtndojpcjhkncgaaGreatDoorW.PrintWords
set_option linter.unusedVariables false
set_option linter.unusedSimpArgs false
structure Bd (w0 : World) (b : Nat) (l : List UInt8) (W : World) : Prop where
  is : Lib.IsBuilderF 100 5 w0.heap.size b (Lib.byteCells l) W
  low : Below w0.heap.size w0 W
structure Ok (b : Nat) (W W' : World) : Prop where
  kept : Lib.OthersKept 5 (some b) W W'
theorem Ok.refl (b : Nat) (W : World) : Ok b W W := ⟨Lib.OthersKept.refl _ _ _⟩
theorem Ok.trans {b : Nat} {W1 W2 W3 : World} (h : Ok b W1 W2) (k : Ok b W2 W3) : Ok b W1 W3 := ⟨h.kept.trans k.kept⟩
theorem Ok.of_below {b : Nat} {W1 W2 : World} (h : Below W1.heap.size W1 W2) : Ok b W1 W2 := ⟨fun k o hk _ _ => (h.block k (Array.getElem?_eq_some_iff.1 hk).1).trans hk⟩
theorem Ok.then_ {b : Nat} {W1 W2 W3 : World} (h : Ok b W1 W2) (k : Below W2.heap.size W2 W3) : Ok b W1 W3 := h.trans (Ok.of_below k)
theorem Ok.at_ {b g : Nat} {W W' : World} (h : Ok b W W') {cs : Array Value} {t : TypeId} {fz : Nat × Nat} (hg : W.heap[g]? = some (.cells cs t fz)) (hb : g ≠ b) (ht : t ≠ 5) : W'.heap[g]? = some (.cells cs t fz) :=
  h.kept g _ hg (fun e => hb (Option.some.inj e)) (fun c z e => ht (by injection e))
theorem Bd.then_ {w0 : World} {b : Nat} {l : List UInt8} {W W' : World} (h : Bd w0 b l W) (k : Below W.heap.size W W') : Bd w0 b l W' := by
  have one : ∀ p, Lib.BuilderAtF 100 5 w0.heap.size b p (Lib.byteCells l) W → Lib.BuilderAtF 100 5 w0.heap.size b p (Lib.byteCells l) W' := by
    rintro p ⟨hB, v, hb, ho, hne⟩
    exact ⟨hB, v, (k.block b (Array.getElem?_eq_some_iff.1 hb).1).trans hb, ho.kept (grown_of_below k none) (by cases v.ownBlock <;> simp), hne⟩
  exact ⟨h.is.imp (one _) (one _), below_then h.low h.low.size k⟩
theorem Bd.lt {w0 : World} {b : Nat} {l : List UInt8} {W : World} (h : Bd w0 b l W) : b < W.heap.size := by
  rcases h.is with h | h
  · exact h.lt
  · exact h.lt
theorem WriteByte_b (w0 : World) (b : Nat) (l : List UInt8) (c : UInt8) (W : World) (h : Bd w0 b l W) (hlen : l.length + 1 ≤ 140737488355328) :
    Calls Tryz.prog 61 #[.pointer (some ⟨b, 0, none⟩), .int .u8 c.toNat] W fun e W' => e = .returned .nilIface ∧ Bd w0 b (l ++ [c]) W' ∧ Ok b W W' := by
  refine (WriteByte_k w0.heap.size b (Lib.byteCells l) c.toNat W h.is (by rw [Lib.byteCells_length]; exact hlen) h.low.size).mono ?_
  rintro e W' ⟨rfl, h1, h2, h3⟩
  rw [show Lib.byteCells l ++ [Value.int .u8 (c.toNat : Int)] = Lib.byteCells (l ++ [c]) by rw [Lib.byteCells_append]; rfl] at h1
  exact ⟨rfl, ⟨.inr h1, h.low.trans h2⟩, ⟨h3⟩⟩
theorem WriteString_b (w0 : World) (b : Nat) (l : List UInt8) (s : ByteArray) (W : World) (h : Bd w0 b l W) (hlen : l.length + s.size ≤ 140737488355328) :
    Calls Tryz.prog 60 #[.pointer (some ⟨b, 0, none⟩), .string s] W fun e W' => e = .returned (.tuple #[.int .i64 s.size, .nilIface]) ∧ Bd w0 b (l ++ s.data.toList) W' ∧ Ok b W W' := by
  refine (WriteString_k w0.heap.size b (Lib.byteCells l) s W h.is (by rw [Lib.byteCells_length]; exact hlen) h.low.size).mono ?_
  rintro e W' ⟨rfl, h1, h2, h3⟩
  rw [Lib.strCells_eq, ← Lib.byteCells_append] at h1
  exact ⟨rfl, ⟨.inr h1, h.low.trans h2⟩, ⟨h3⟩⟩
def numsL (ns : List Int) : List UInt8 := ns.flatMap fun n => 32 :: Lib.itoa n
def lineL (word : List UInt8) (ns : List Int) : List UInt8 := word ++ numsL ns ++ [10]
theorem numsL_snoc (ns : List Int) (k : Nat) (hk : k < ns.length) : numsL (ns.take (k + 1)) = numsL (ns.take k) ++ [32] ++ Lib.itoa ns[k] := by
  unfold numsL
  rw [List.take_succ_eq_append_getElem hk, List.flatMap_append]
  simp
theorem numsL_take_le (ns : List Int) (k : Nat) : (numsL (ns.take k)).length ≤ (numsL ns).length := by
  have h : numsL ns = numsL (ns.take k) ++ numsL (ns.drop k) := by
    unfold numsL
    rw [← List.flatMap_append, List.take_append_drop]
  rw [h, List.length_append]
  omega
set_option maxHeartbeats 1000000 in
set_option maxRecDepth 100000 in
theorem line_go (w0 : World) (hG : GG w0) (b : Nat) (l : List UInt8) (word : ByteArray) (ns : List Int) (g : Nat) (W : World) (hI : Bd w0 b l W)
    (hns : ∀ n ∈ ns, -9223372036854775808 ≤ n ∧ n ≤ 9223372036854775807) (hlen : l.length + (lineL word.data.toList ns).length ≤ 140737488355328)
    (hg : W.heap[g]? = some (.cells (ns.map (Value.int .i64)).toArray 3 (0, 0))) (hgb : g ≠ b) (hnl : ns.length ≤ 1000) :
    Calls Tryz.prog 59 #[.string word, .slice (some ⟨g, 0, none⟩) ns.length ns.length, .pointer (some ⟨b, 0, none⟩)] W fun e W' => e = .returned (.tuple #[]) ∧ Bd w0 b (l ++ lineL word.data.toList ns) W' ∧ Ok b W W' := by
  have HG := Lib.hid hG
  have HI := Lib.hid hI
  have HN := Lib.hid hns
  have hll : (lineL word.data.toList ns).length = word.size + (numsL ns).length + 1 := by
    unfold lineL
    rw [List.length_append, List.length_append, Array.length_toList]
    rfl
  have HL := Lib.hid (show l.length + word.size + (numsL ns).length + 1 ≤ 140737488355328 by omega)
  have Hg := Lib.hid hg
  clear hG hI hns hlen hg hll
  go_enter Tryz.func59, Tryz.ntmps59
  go_wp2_with (go_at_call 60; refine (WriteString_b w0 b l word W HI.out (by have := HL.out; omega)).mono ?_; rintro e W1 ⟨rfl, hI1, hk1⟩)
  have HI1 := Lib.hid hI1
  have HK1 := Lib.hid hk1
  clear hI1 hk1
  go_loopw [11] (fun i wr => ∃ k : Nat, k ≤ ns.length ∧ i = .int .i64 k ∧ Hid (Bd w0 b (l ++ word.data.toList ++ numsL (ns.take k)) wr) ∧ Hid (Ok b W wr)) (fun i _ => ns.length - (intOf i).toNat)
  case atStart => exact ⟨0, Nat.zero_le _, rfl, by rw [List.take_zero]; exact Lib.hid (by simpa [numsL] using HI1.out), HK1⟩
  case round =>
    obtain ⟨k, hk, rfl, hI, hK⟩ := hrel
    have hb := hK.out.at_ Hg.out hgb (by decide)
    by_cases hlt : k < ns.length
    · have hc : wr.cell? ⟨g, k, none⟩ = some (.int .i64 ns[k]) := (blk_cell hb k).trans (by simp [hlt])
      obtain ⟨n, hn⟩ : ∃ n, n = ns[k] := ⟨_, rfl⟩
      rw [← hn] at hc
      have hr := HN.out n (by rw [hn]; exact List.getElem_mem hlt)
      have hle := numsL_take_le ns (k + 1)
      rw [numsL_snoc ns k hlt, ← hn, List.length_append, List.length_append] at hle
      have HS := Lib.hid (show l ++ word.data.toList ++ numsL (ns.take (k + 1)) = l ++ word.data.toList ++ numsL (ns.take k) ++ [32] ++ Lib.itoa n by rw [numsL_snoc ns k hlt, hn]; simp [List.append_assoc])
      have HE := Lib.hid hle
      have hit : strconv_Itoa.f n = some ⟨(Lib.itoa n).toArray⟩ := if_pos hr
      have HIt := Lib.hid hit
      have HR := Lib.hid hr
      have hwl : word.data.toList.length = word.size := by rw [Array.length_toList]; rfl
      have HW := Lib.hid hwl
      clear hn hle hit hr hwl hb
      go_wp2_with (go_at_call 61; refine (WriteByte_b w0 b _ 32 wr hI.out (by have h1 := HL.out; have h2 := HE.out; have h3 := HW.out; simp only [List.length_append, List.length_singleton] at h2 ⊢; omega)).mono ?_; rintro e W2 ⟨rfl, hI2, hk2⟩)
      have HI2 := Lib.hid hI2
      have HK2 := Lib.hid hk2
      clear hI2 hk2
      refine (strconv_Itoa.calls n _ W2 (HG.out.below HI2.out.low) HIt.out).mono ?_
      rintro e W3 ⟨rfl, hb3⟩
      have HI3 := Lib.hid (HI2.out.then_ hb3)
      have HK3 := Lib.hid (HK2.out.then_ hb3)
      clear hb3 HI2 HK2
      go_wp2_with fail
      refine (WriteString_b w0 b _ ⟨(Lib.itoa n).toArray⟩ W3 HI3.out (by have h1 := HL.out; have h2 := HE.out; have h3 := HW.out; simp only [List.length_append, List.length_singleton] at h2 ⊢; show _ + (Lib.itoa n).toArray.size ≤ _; simp only [List.size_toArray]; omega)).mono ?_
      rintro e W4 ⟨rfl, hI4, hk4⟩
      have HI4 := Lib.hid hI4
      have HK4 := Lib.hid (hK.out.trans (HK3.out.trans hk4))
      clear hI4 hk4 HI3 HK3 hc HIt HR
      go_wp2_with fail
      go_roundw
      case rel => exact ⟨k + 1, by omega, by go_num, by rw [HS.out]; exact HI4, HK4⟩
      case measure => simp [intOf]; omega
    · obtain rfl : k = ns.length := by omega
      have hI' := hI.out
      rw [List.take_length] at hI'
      have HI2 := Lib.hid hI'
      clear hI hI' hb
      have hwl : word.data.toList.length = word.size := by rw [Array.length_toList]; rfl
      have HW := Lib.hid hwl
      clear hwl
      go_wp2_with (go_at_call 61; refine (WriteByte_b w0 b _ 10 wr HI2.out (by have h1 := HL.out; have h3 := HW.out; simp only [List.length_append]; omega)).mono ?_; rintro e W2 ⟨rfl, hI2, hk2⟩)
      go_end0
      exact ⟨rfl, by simpa [lineL, List.append_assoc] using hI2, hK.out.trans hk2⟩
end Go.Proofs.YtndojpcjhkncgaaGreatDoor.Q
end

section
namespace Go.Proofs.YtndojpcjhkncgaaGreatDoor.Q
open Go Go.RowKit Go.Proofs.YtndojpcjhkncgaaGreatDoorW.PrintWords
set_option linter.unusedVariables false
set_option linter.unusedSimpArgs false
def orderL (o : S47) : List UInt8 := lineL [111, 114, 100, 101, 114] [o.f0, o.f1, o.f2, o.f3, o.f4]
def fileL (num day : Int) (os : List S47) (s : Int) : List UInt8 := lineL [80, 65, 89] [num, day, os.length, s] ++ os.flatMap orderL
theorem flat_take_le {α : Type} (f : α → List UInt8) (os : List α) (k : Nat) (hk : k < os.length) : ((os.take k).flatMap f).length + (f os[k]).length ≤ (os.flatMap f).length := by
  have h : os.flatMap f = (os.take (k + 1)).flatMap f ++ (os.drop (k + 1)).flatMap f := by rw [← List.flatMap_append, List.take_append_drop]
  rw [h, List.length_append, List.take_succ_eq_append_getElem hk, List.flatMap_append, List.length_append]
  simp
set_option maxHeartbeats 1000000 in
set_option maxRecDepth 100000 in
theorem Write1_go (w0 : World) (hG : GG w0) (b gf : Nat) (l : List UInt8) (num day : Int) (A : Option Addr) (c : Nat) (os : List S47) (W : World) (hI : Bd w0 b l W)
    (hf : W.heap[gf]? = some (.cells #[.int .i64 num, .int .i64 day, .slice A os.length c] 27 (0, 0))) (hgf : gf ≠ b) (hC : Kd.C k47 w0 A os.length os) (hc : os.length ≤ c) (k : Nat) (s : Int) (hs : bank_total.f k num day os = some s)
    (hn : ∀ n ∈ [num, day, (os.length : Int), s], -9223372036854775808 ≤ n ∧ n ≤ 9223372036854775807) (ho : ∀ o ∈ os, ∀ n ∈ [o.f0, o.f1, o.f2, o.f3, o.f4], -9223372036854775808 ≤ n ∧ n ≤ 9223372036854775807)
    (hlen : l.length + (fileL num day os s).length ≤ 140737488355328) :
    Calls Tryz.prog 45 #[.func (.func 59) #[] #[.pointer (some ⟨b, 0, none⟩)], .pointer (some ⟨gf, 0, none⟩)] W fun e W' => e = .returned (.tuple #[]) ∧ Bd w0 b (l ++ fileL num day os s) W' ∧ Ok b W W' := by
  have hll : (lineL [80, 65, 89] [num, day, os.length, s]).length ≤ (fileL num day os s).length := by unfold fileL; rw [List.length_append]; omega
  have HLine : ∀ (w' : World) (g : Nat), Bd w0 b l w' → w'.heap[g]? = some (.cells #[.int .i64 num, .int .i64 day, .int .i64 os.length, .int .i64 s] 3 (0, 0)) → g ≠ b →
      Calls Tryz.prog 59 #[.string ⟨#[80, 65, 89]⟩, .slice (some ⟨g, 0, none⟩) 4 4, .pointer (some ⟨b, 0, none⟩)] w' fun e W' => e = .returned (.tuple #[]) ∧ Bd w0 b (l ++ lineL [80, 65, 89] [num, day, os.length, s]) W' ∧ Ok b w' W' :=
    fun w' g h1 h2 h3 => line_go w0 hG b l ⟨#[80, 65, 89]⟩ [num, day, os.length, s] g w' h1 hn (by exact Nat.le_trans (Nat.add_le_add_left hll _) hlen) h2 h3 (by simp)
  have HTot : ∀ w', Bd w0 b l w' → Calls Tryz.prog 46 #[.agg #[.int .i64 num, .int .i64 day, .slice A os.length c]] w' fun e w2 => e = .returned (.int .i64 s) ∧ Below w'.heap.size w' w2 :=
    fun w' h => bank_total.calls k num day A c os s w' (Kd.C_below hC h.low) hc hs
  have HL := Lib.hid HLine
  have HG0 := Lib.hid hG
  have HT := Lib.hid HTot
  have HI := Lib.hid hI
  have HC := Lib.hid hC
  have HO := Lib.hid ho
  have HN := Lib.hid hlen
  have HF := Lib.hid hf
  have c0 : W.cell? ⟨gf, 0, none⟩ = some (.int .i64 num) := blk_cell hf 0
  have c1 : W.cell? ⟨gf, 1, none⟩ = some (.int .i64 day) := blk_cell hf 1
  have c2 : W.cell? ⟨gf, 2, none⟩ = some (.slice A os.length c) := blk_cell hf 2
  clear HLine HTot hI hC ho hlen hf hn hs hG hll
  have hk1 : Ok b W W.drew := Ok.of_below (below_drew (Below.refl _ _))
  have hS : ∀ w', Ok b W w' → (w'.cell? ⟨gf, 0, none⟩ = some (.int .i64 num) ∧ w'.cell? ⟨gf, 1, none⟩ = some (.int .i64 day) ∧ w'.cell? ⟨gf, 2, none⟩ = some (.slice A os.length c)) :=
    fun w' h => have h := h.at_ HF.out hgf (by decide); ⟨blk_cell h 0, blk_cell h 1, blk_cell h 2⟩
  have HS := Lib.hid hS
  have HK1 := Lib.hid hk1
  have HI1 := Lib.hid (HI.out.then_ (below_drew (Below.refl W.heap.size W)))
  have HG := Lib.hid hgf
  clear hS hk1 hgf HI
  go_enter Tryz.func45, Tryz.ntmps45
  go_wp2_with fail
  go_region_held3 (fun w' => (w'.cell? ⟨gf, 0, none⟩ = some (.int .i64 num) ∧ w'.cell? ⟨gf, 1, none⟩ = some (.int .i64 day) ∧ w'.cell? ⟨gf, 2, none⟩ = some (.slice A os.length c))) (first | exact HS.out _ HK1.out | exact HS.out _ HK2.out | exact HS.out _ HK3.out | exact HS.out _ HK4.out)
    (first | (go_at_call 46; refine (HT.out _ HI1.out).mono ?_; rintro e w2 ⟨rfl, hb2⟩; have HI2 := Lib.hid (HI1.out.then_ hb2); have HK2 := Lib.hid (HK1.out.then_ hb2); have HK3 := Lib.hid (HK2.out.then_ (below_alloc (Below.refl w2.heap.size w2) (.cells #[.int .i64 num, .int .i64 day, .int .i64 os.length, .int .i64 s] 3))); have HI3 := Lib.hid (HI2.out.then_ (below_alloc (Below.refl w2.heap.size w2) (.cells #[.int .i64 num, .int .i64 day, .int .i64 os.length, .int .i64 s] 3))); have HB2 := Lib.hid hb2; clear hb2) | (go_at_call 59; refine (HL.out _ w2.heap.size HI3.out (heap_alloc_new w2 _) (fun e => Nat.lt_irrefl _ (Nat.lt_of_lt_of_eq HI2.out.lt e))).mono ?_; rintro e w3 ⟨rfl, hI4, hk4⟩; have HI4 := Lib.hid hI4; have HK4 := Lib.hid (HK3.out.trans hk4); clear hI4 hk4))
  clear HI1 HI2 HI3 HK1 HK2 HK3 HB2 c0 c1 c2 HT HL
  obtain ⟨d0, d1, d2⟩ := HS.out _ HK4.out
  clear d0 d1
  go_wp2_with fail
  go_loopw [20] (fun i wr => ∃ k : Nat, k ≤ os.length ∧ i = .int .i64 k ∧ Hid (Bd w0 b (l ++ lineL [80, 65, 89] [num, day, os.length, s] ++ (os.take k).flatMap orderL) wr) ∧ Hid (Ok b W wr)) (fun i _ => os.length - (intOf i).toNat)
  case atStart => exact ⟨0, Nat.zero_le _, rfl, Lib.hid (by simpa using HI4.out), HK4⟩
  case round =>
    obtain ⟨k, hk, rfl, hI, hK⟩ := hrel
    clear d2 HI4 HK4
    have hm : os.length ≤ 9223372036854775807 := HC.out.2.1
    by_cases hlt : k < os.length
    · obtain ⟨ad, rfl, e0, e1, e2, e3, e4⟩ := at_T47 (Kd.C_below HC.out hI.out.low) (k : Int) (by omega) (by omega)
      obtain ⟨o, hor⟩ : ∃ o, o = rd_T47 os (k : Int) := ⟨_, rfl⟩
      rw [← hor] at e0 e1 e2 e3 e4
      simp only [Int.toNat_natCast] at e0 e1 e2 e3 e4
      have HOR := Lib.hid hor
      clear hor
      have hlo : l.length + (lineL [80, 65, 89] [num, day, os.length, s]).length + ((os.take k).flatMap orderL).length + (orderL o).length ≤ 140737488355328 := by
        have h := HN.out
        have h2 := flat_take_le orderL os k hlt
        rw [show os[k] = o by rw [HOR.out]; unfold rd_T47; simp [hlt]] at h2
        unfold fileL at h
        rw [List.length_append] at h
        omega
      have hon := HO.out o (by rw [HOR.out]; unfold rd_T47; simp [hlt])
      have HOL := Lib.hid hlo
      have HON := Lib.hid hon
      clear hlo hon
      go_wp2_with fail
      have HB1 := Lib.hid (below_alloc (below_alloc (Below.refl wr.heap.size wr) (.cells #[.int .i64 o.f0, .int .i64 o.f1, .int .i64 o.f2, .int .i64 o.f3, .int .i64 o.f4] 47)) (.cells #[.int .i64 o.f0, .int .i64 o.f1, .int .i64 o.f2, .int .i64 o.f3, .int .i64 o.f4] 3))
      have hnb : wr.heap.size + 1 ≠ b := by have := hI.out.lt; omega
      refine (line_go w0 HG0.out b _ ⟨#[111, 114, 100, 101, 114]⟩ [o.f0, o.f1, o.f2, o.f3, o.f4] (wr.heap.size + 1) _ (hI.out.then_ HB1.out) HON.out (by rw [List.length_append, List.length_append]; exact HOL.out) (by have := heap_alloc_new (wr.alloc (.cells #[.int .i64 o.f0, .int .i64 o.f1, .int .i64 o.f2, .int .i64 o.f3, .int .i64 o.f4] 47)) (.cells #[.int .i64 o.f0, .int .i64 o.f1, .int .i64 o.f2, .int .i64 o.f3, .int .i64 o.f4] 3); rw [World.size_alloc] at this; exact this) hnb (by simp)).mono ?_
      rintro e w5 ⟨rfl, hI5, hk5⟩
      have HI5 := Lib.hid hI5
      have HK5 := Lib.hid ((hK.out.then_ HB1.out).trans hk5)
      have HS2 := Lib.hid (show l ++ lineL [80, 65, 89] [num, day, os.length, s] ++ (os.take (k + 1)).flatMap orderL = l ++ lineL [80, 65, 89] [num, day, os.length, s] ++ (os.take k).flatMap orderL ++ orderL o by
        rw [List.take_succ_eq_append_getElem hlt, List.flatMap_append, show os[k] = o by rw [HOR.out]; unfold rd_T47; simp [hlt]]
        simp [List.append_assoc])
      clear hI5 hk5 HB1 hnb e0 e1 e2 e3 e4 HOL HON
      go_wp2_with fail
      go_roundw
      case rel => exact ⟨k + 1, by omega, by go_num, Lib.hid (by rw [HS2.out]; exact HI5.out), HK5⟩
      case measure => simp [intOf]; omega
    · obtain rfl : k = os.length := by omega
      have hI' := hI.out
      rw [List.take_length] at hI'
      have HI2 := Lib.hid hI'
      clear hI hI'
      go_wp2_with fail
      go_end0
      exact ⟨rfl, by have := HI2.out; unfold fileL; rw [← List.append_assoc]; exact this, hK.out⟩
def returnL (o : S49) : List UInt8 := lineL [114, 101, 116, 117, 114, 110] [o.f0, o.f1]
def answerL (num day : Int) (os : List S49) : List UInt8 := lineL [66, 65, 67, 75] [num, day, os.length] ++ os.flatMap returnL
set_option maxHeartbeats 1000000 in
set_option maxRecDepth 100000 in
theorem WriteAnswer1_go (w0 : World) (hG : GG w0) (b gf : Nat) (l : List UInt8) (num day : Int) (A : Option Addr) (c : Nat) (os : List S49) (W : World) (hI : Bd w0 b l W)
    (hf : W.heap[gf]? = some (.cells #[.int .i64 num, .int .i64 day, .slice A os.length c] 30 (0, 0))) (hgf : gf ≠ b) (hC : Kd.C k49 w0 A os.length os) (hc : os.length ≤ c)
    (hn : ∀ n ∈ [num, day, (os.length : Int)], -9223372036854775808 ≤ n ∧ n ≤ 9223372036854775807) (ho : ∀ o ∈ os, ∀ n ∈ [o.f0, o.f1], -9223372036854775808 ≤ n ∧ n ≤ 9223372036854775807)
    (hlen : l.length + (answerL num day os).length ≤ 140737488355328) :
    Calls Tryz.prog 54 #[.func (.func 59) #[] #[.pointer (some ⟨b, 0, none⟩)], .pointer (some ⟨gf, 0, none⟩)] W fun e W' => e = .returned (.tuple #[]) ∧ Bd w0 b (l ++ answerL num day os) W' ∧ Ok b W W' := by
  have hll : (lineL [66, 65, 67, 75] [num, day, os.length]).length ≤ (answerL num day os).length := by unfold answerL; rw [List.length_append]; omega
  have HLine : ∀ (w' : World) (g : Nat), Bd w0 b l w' → w'.heap[g]? = some (.cells #[.int .i64 num, .int .i64 day, .int .i64 os.length] 3 (0, 0)) → g ≠ b →
      Calls Tryz.prog 59 #[.string ⟨#[66, 65, 67, 75]⟩, .slice (some ⟨g, 0, none⟩) 3 3, .pointer (some ⟨b, 0, none⟩)] w' fun e W' => e = .returned (.tuple #[]) ∧ Bd w0 b (l ++ lineL [66, 65, 67, 75] [num, day, os.length]) W' ∧ Ok b w' W' :=
    fun w' g h1 h2 h3 => line_go w0 hG b l ⟨#[66, 65, 67, 75]⟩ [num, day, os.length] g w' h1 hn (by exact Nat.le_trans (Nat.add_le_add_left hll _) hlen) h2 h3 (by simp)
  have HL := Lib.hid HLine
  have HG0 := Lib.hid hG
  have HI := Lib.hid hI
  have HC := Lib.hid hC
  have HO := Lib.hid ho
  have HN := Lib.hid hlen
  have HF := Lib.hid hf
  have c0 : W.cell? ⟨gf, 0, none⟩ = some (.int .i64 num) := blk_cell hf 0
  have c1 : W.cell? ⟨gf, 1, none⟩ = some (.int .i64 day) := blk_cell hf 1
  have c2 : W.cell? ⟨gf, 2, none⟩ = some (.slice A os.length c) := blk_cell hf 2
  clear HLine hI hC ho hlen hf hn hG hll
  have hS : ∀ w', Ok b W w' → (w'.cell? ⟨gf, 0, none⟩ = some (.int .i64 num) ∧ w'.cell? ⟨gf, 1, none⟩ = some (.int .i64 day) ∧ w'.cell? ⟨gf, 2, none⟩ = some (.slice A os.length c)) :=
    fun w' h => have h := h.at_ HF.out hgf (by decide); ⟨blk_cell h 0, blk_cell h 1, blk_cell h 2⟩
  have HS := Lib.hid hS
  have HG := Lib.hid hgf
  have HK3 := Lib.hid (Ok.of_below (b := b) (below_alloc (Below.refl W.heap.size W) (.cells #[.int .i64 num, .int .i64 day, .int .i64 os.length] 3)))
  have HI3 := Lib.hid (HI.out.then_ (below_alloc (Below.refl W.heap.size W) (.cells #[.int .i64 num, .int .i64 day, .int .i64 os.length] 3)))
  clear hS hgf
  go_enter Tryz.func54, Tryz.ntmps54
  go_wp2_with fail
  refine (HL.out _ W.heap.size HI3.out (heap_alloc_new W _) (fun e => Nat.lt_irrefl _ (Nat.lt_of_lt_of_eq HI.out.lt e))).mono ?_
  rintro e w3 ⟨rfl, hI4, hk4⟩
  have HI4 := Lib.hid hI4
  have HK4 := Lib.hid (HK3.out.trans hk4)
  clear hI4 hk4 HI3 HK3 c0 c1 c2 HL
  obtain ⟨d0, d1, d2⟩ := HS.out _ HK4.out
  clear d0 d1
  go_wp2_with fail
  go_loopw [18] (fun i wr => ∃ k : Nat, k ≤ os.length ∧ i = .int .i64 k ∧ Hid (Bd w0 b (l ++ lineL [66, 65, 67, 75] [num, day, os.length] ++ (os.take k).flatMap returnL) wr) ∧ Hid (Ok b W wr)) (fun i _ => os.length - (intOf i).toNat)
  case atStart => exact ⟨0, Nat.zero_le _, rfl, Lib.hid (by simpa using HI4.out), HK4⟩
  case round =>
    obtain ⟨k, hk, rfl, hI, hK⟩ := hrel
    clear d2 HI4 HK4
    have hm : os.length ≤ 9223372036854775807 := HC.out.2.1
    by_cases hlt : k < os.length
    · obtain ⟨ad, rfl, e0, e1⟩ := at_T49 (Kd.C_below HC.out hI.out.low) (k : Int) (by omega) (by omega)
      obtain ⟨o, hor⟩ : ∃ o, o = rd_T49 os (k : Int) := ⟨_, rfl⟩
      rw [← hor] at e0 e1
      simp only [Int.toNat_natCast] at e0 e1
      have HOR := Lib.hid hor
      clear hor
      have hlo : l.length + (lineL [66, 65, 67, 75] [num, day, os.length]).length + ((os.take k).flatMap returnL).length + (returnL o).length ≤ 140737488355328 := by
        have h := HN.out
        have h2 := flat_take_le returnL os k hlt
        rw [show os[k] = o by rw [HOR.out]; unfold rd_T49; simp [hlt]] at h2
        unfold answerL at h
        rw [List.length_append] at h
        omega
      have hon := HO.out o (by rw [HOR.out]; unfold rd_T49; simp [hlt])
      have HOL := Lib.hid hlo
      have HON := Lib.hid hon
      clear hlo hon
      go_wp2_with fail
      have HB1 := Lib.hid (below_alloc (below_alloc (Below.refl wr.heap.size wr) (.cells #[.int .i64 o.f0, .int .i64 o.f1] 49)) (.cells #[.int .i64 o.f0, .int .i64 o.f1] 3))
      have hnb : wr.heap.size + 1 ≠ b := by have := hI.out.lt; omega
      refine (line_go w0 HG0.out b _ ⟨#[114, 101, 116, 117, 114, 110]⟩ [o.f0, o.f1] (wr.heap.size + 1) _ (hI.out.then_ HB1.out) HON.out (by rw [List.length_append, List.length_append]; exact HOL.out) (by have := heap_alloc_new (wr.alloc (.cells #[.int .i64 o.f0, .int .i64 o.f1] 49)) (.cells #[.int .i64 o.f0, .int .i64 o.f1] 3); rw [World.size_alloc] at this; exact this) hnb (by simp)).mono ?_
      rintro e w5 ⟨rfl, hI5, hk5⟩
      have HI5 := Lib.hid hI5
      have HK5 := Lib.hid ((hK.out.then_ HB1.out).trans hk5)
      have HS2 := Lib.hid (show l ++ lineL [66, 65, 67, 75] [num, day, os.length] ++ (os.take (k + 1)).flatMap returnL = l ++ lineL [66, 65, 67, 75] [num, day, os.length] ++ (os.take k).flatMap returnL ++ returnL o by
        rw [List.take_succ_eq_append_getElem hlt, List.flatMap_append, show os[k] = o by rw [HOR.out]; unfold rd_T49; simp [hlt]]
        simp [List.append_assoc])
      clear hI5 hk5 HB1 hnb e0 e1 HOL HON
      go_wp2_with fail
      go_roundw
      case rel => exact ⟨k + 1, by omega, by go_num, Lib.hid (by rw [HS2.out]; exact HI5.out), HK5⟩
      case measure => simp [intOf]; omega
    · obtain rfl : k = os.length := by omega
      have hI' := hI.out
      rw [List.take_length] at hI'
      have HI2 := Lib.hid hI'
      clear hI hI'
      go_wp2_with fail
      go_end0
      exact ⟨rfl, by have := HI2.out; unfold answerL; rw [← List.append_assoc]; exact this, hK.out⟩
end Go.Proofs.YtndojpcjhkncgaaGreatDoor.Q
end

section
namespace Go.Proofs.YtndojpcjhkncgaaGreatDoor.Q
open Go.RowKit Go.Proofs.YtndojpcjhkncgaaGreatDoorW.PrintWords Go.Proofs.YtndojpcjhkncgaaGreatDoorW.PrintLast Go.Proofs.YtndojpcjhkncgaaGreatDoorW.PrintMore
attribute [local go_sem] max2_int min2_int max_two min_two max_three min_three max_four min_four   -- for this text's walks alone
set_option linter.unusedVariables false
set_option linter.unusedSimpArgs false
def bank_end.l0 : Nat → ByteArray → Int → Int → Int → Int → Option (ByteArray)
 | 0, _, _, _, _, _ => none
 | k + 1, x0, x3, x4, x7, x8 => if x8 < x7 then (if 0 ≤ x8 then (if x8 < (x0.size : Int) then (bank_end.l0 k x0 ((x3 + ((bt x0 x8) % 4294967296)) % 4294967296) ((x4 + ((((wrap64 (x8 + 1)) % 4294967296) * ((bt x0 x8) % 4294967296)) % 4294967296)) % 4294967296) x7 (wrap64 (x8 + 1))) else (none)) else (none)) else ((bank_hex.f x3).bind fun t122 => (if 4 + t122.size ≤ 9223372036854775807 then (if 4 + t122.size + 1 ≤ 9223372036854775807 then ((bank_hex.f x4).bind fun t123 => (if 4 + t122.size + 1 + t123.size ≤ 9223372036854775807 then (if 4 + t122.size + 1 + t123.size + 1 ≤ 9223372036854775807 then (some (((((⟨#[69, 78, 68, 32]⟩ : ByteArray) ++ t122) ++ (⟨#[32]⟩ : ByteArray)) ++ t123) ++ (⟨#[10]⟩ : ByteArray))) else (none)) else (none))) else (none)) else (none)))
def bank_end.f (k : Nat) (a0 : ByteArray) : Option (ByteArray) := bank_end.l0 k a0 0 0 (a0.size : Int) 0
theorem bank_end.mono_l : ∀ k, (∀ y0 y1 y2 y3 y4, LeO (bank_end.l0 k y0 y1 y2 y3 y4) (bank_end.l0 (k + 1) y0 y1 y2 y3 y4))
 | 0 => fun _ _ _ _ _ r h => by simp [bank_end.l0] at h
 | k + 1 => by
  have ih0 := bank_end.mono_l k
  ·
   intro y0 y1 y2 y3 y4
   unfold bank_end.l0
   repeat' first
   | (with_reducible exact ih0 _ _ _ _ _)
   | (with_reducible exact LeO.refl _)
   | (with_reducible exact LeO.none _)
   | (with_reducible refine LeO.ite ?_ ?_)
   | (with_reducible refine LeO.bind ?_ (fun _ => ?_))
   | exact ih0 _ _ _ _ _
   | exact LeO.none _
   | refine LeO.ite ?_ ?_
   | refine LeO.bind ?_ (fun _ => ?_)
theorem bank_end.mono : ∀ a0 k, LeO (bank_end.f k a0) (bank_end.f (k + 1) a0) := by
 intro a0 k
 have ih0 := bank_end.mono_l k
 unfold bank_end.f
 repeat' first
   | (with_reducible exact ih0 _ _ _ _ _)
   | (with_reducible exact LeO.refl _)
   | (with_reducible exact LeO.none _)
   | (with_reducible refine LeO.ite ?_ ?_)
   | (with_reducible refine LeO.bind ?_ (fun _ => ?_))
   | exact ih0 _ _ _ _ _
   | exact LeO.none _
   | refine LeO.ite ?_ ?_
   | refine LeO.bind ?_ (fun _ => ?_)
set_option maxHeartbeats 8000000 in
set_option maxRecDepth 100000 in
theorem bank_end.calls (k : Nat) (a0 : ByteArray) (r : ByteArray) (w : World) (hG : GG w) (h : bank_end.f k a0 = some r) :
  Calls Tryz.prog 64 #[.string a0] w fun e w' => e = .returned (.string r) ∧ Below w.heap.size w w' := by
 have HG := Aside0.mk hG
 clear hG
 have HB := Aside0.mk (Below.refl w.heap.size w)
 have H : (bank_end.l0 k a0 0 0 (a0.size : Int) 0) = some r := h
 clear h
 have H' := Aside0.mk H
 clear H
 go_enter Tryz.func64, Tryz.ntmps64
 go_wp2
 go_loopg [3, 4, 8] k (fun kq v3 v4 v8 w' => ∃ (x3_1 : Int) (x4_1 : Int) (x8_1 : Int), v3 = .int .u32 x3_1 ∧ v4 = .int .u32 x4_1 ∧ v8 = .int .i64 x8_1 ∧ Aside0 (bank_end.l0 kq a0 x3_1 x4_1 (a0.size : Int) x8_1 = some r) ∧ Aside0 (kq ≤ k) ∧ Aside0 (Below w.heap.size w w'))
 case atStart => exact ⟨(0), (0), (0), (by first | rfl | (simp; done) | (simp [*]; done)), (by first | rfl | (simp; done) | (simp [*]; done)), (by first | rfl | (simp; done) | (simp [*]; done)), H', ⟨Nat.le_refl _⟩, ⟨by repeat (first | (with_reducible first | exact HB.out | apply below_alloc | apply pw_below_drewN | apply below_drew1) | exact HB.out)⟩⟩
 case round =>
  clear H'
  obtain ⟨x3_1, x4_1, x8_1, rfl, rfl, rfl, HA, HK1, HB⟩ := hrel
  cases gk with
  | zero => exact absurd HA.out (by simp [bank_end.l0])
  | succ k1 =>
   have H := HA.out
   clear HA
   simp only [bank_end.l0] at H
   by_cases c2 : x8_1 < (a0.size : Int)
   ·
    rw [if_pos c2] at H
    have c2b0 : decide (x8_1 < (a0.size : Int)) = true := decide_eq_true c2
    clear c2
    by_cases c3 : 0 ≤ x8_1
    ·
     rw [if_pos c3] at H
     have c3b0 : decide (0 ≤ x8_1) = true := decide_eq_true c3
     clear c3
     by_cases c4 : x8_1 < (a0.size : Int)
     ·
      rw [if_pos c4] at H
      have c4b0 : decide (x8_1 < (a0.size : Int)) = true := decide_eq_true c4
      clear c4
      have H' := Aside0.mk H
      clear H
      have p5 : 0 ≤ (x8_1 : Int) := of_decide_eq_true (by first | (with_reducible assumption) | assumption)
      have q5 : x8_1 < (a0.size : Int) := of_decide_eq_true (by first | (with_reducible assumption) | assumption)
      have hx5 := bt_at a0 x8_1
      replace p5 := eq_true p5
      replace q5 := eq_true q5
      have p6 : 0 ≤ (x8_1 : Int) := of_decide_eq_true (by first | (with_reducible assumption) | assumption)
      have q6 : x8_1 < (a0.size : Int) := of_decide_eq_true (by first | (with_reducible assumption) | assumption)
      have hx6 := bt_at a0 x8_1
      replace p6 := eq_true p6
      replace q6 := eq_true q6
      go_wp2
      go_roundg k1
      case measure => have := HK1.out; omega
      case rel => exact ⟨((x3_1 + ((bt a0 x8_1) % 4294967296)) % 4294967296), ((x4_1 + ((((wrap64 (x8_1 + 1)) % 4294967296) * ((bt a0 x8_1) % 4294967296)) % 4294967296)) % 4294967296), (wrap64 (x8_1 + 1)), (by first | rfl | (simp; done) | (simp [*]; done)), (by first | rfl | (simp; done) | (simp [*]; done)), (by first | rfl | (simp; done) | (simp [*]; done)), H', ⟨by have := HK1.out; omega⟩, ⟨by repeat (first | (with_reducible first | exact HB.out | apply below_alloc | apply pw_below_drewN | apply below_drew1) | exact HB.out)⟩⟩
     ·
      rw [if_neg c4] at H
      exact absurd H (by simp)
    ·
     rw [if_neg c3] at H
     exact absurd H (by simp)
   ·
    rw [if_neg c2] at H
    have c2b0 : decide (x8_1 < (a0.size : Int)) = false := decide_eq_false c2
    clear c2
    replace H := Option.bind_eq_some_iff.mp H
    obtain ⟨t122, A70, H⟩ := H
    replace H : (if 4 + t122.size ≤ 9223372036854775807 then (if 4 + t122.size + 1 ≤ 9223372036854775807 then ((bank_hex.f x4_1).bind fun t123 => (if 4 + t122.size + 1 + t123.size ≤ 9223372036854775807 then (if 4 + t122.size + 1 + t123.size + 1 ≤ 9223372036854775807 then (some (((((⟨#[69, 78, 68, 32]⟩ : ByteArray) ++ t122) ++ (⟨#[32]⟩ : ByteArray)) ++ t123) ++ (⟨#[10]⟩ : ByteArray))) else (none)) else (none))) else (none)) else (none)) = some r := H
    have A7 := Aside0.mk A70
    clear A70
    by_cases c8 : 4 + t122.size ≤ 9223372036854775807
    ·
     rw [if_pos c8] at H
     have c8b0 := eq_true c8
     have c8b1 : decide (4 + t122.size ≤ 9223372036854775807) = true := decide_eq_true c8
     try have c8b2 : (9223372036854775807 < 4 + t122.size) = False := eq_false (Nat.not_lt.2 c8)
     by_cases c9 : 4 + t122.size + 1 ≤ 9223372036854775807
     ·
      rw [if_pos c9] at H
      have c9b0 := eq_true c9
      have c9b1 : decide (4 + t122.size + 1 ≤ 9223372036854775807) = true := decide_eq_true c9
      try have c9b2 : (9223372036854775807 < 4 + t122.size + 1) = False := eq_false (Nat.not_lt.2 c9)
      replace H := Option.bind_eq_some_iff.mp H
      obtain ⟨t123, A100, H⟩ := H
      replace H : (if 4 + t122.size + 1 + t123.size ≤ 9223372036854775807 then (if 4 + t122.size + 1 + t123.size + 1 ≤ 9223372036854775807 then (some (((((⟨#[69, 78, 68, 32]⟩ : ByteArray) ++ t122) ++ (⟨#[32]⟩ : ByteArray)) ++ t123) ++ (⟨#[10]⟩ : ByteArray))) else (none)) else (none)) = some r := H
      have A10 := Aside0.mk A100
      clear A100
      by_cases c11 : 4 + t122.size + 1 + t123.size ≤ 9223372036854775807
      ·
       rw [if_pos c11] at H
       have c11b0 := eq_true c11
       have c11b1 : decide (4 + t122.size + 1 + t123.size ≤ 9223372036854775807) = true := decide_eq_true c11
       try have c11b2 : (9223372036854775807 < 4 + t122.size + 1 + t123.size) = False := eq_false (Nat.not_lt.2 c11)
       by_cases c12 : 4 + t122.size + 1 + t123.size + 1 ≤ 9223372036854775807
       ·
        rw [if_pos c12] at H
        have c12b0 := eq_true c12
        have c12b1 : decide (4 + t122.size + 1 + t123.size + 1 ≤ 9223372036854775807) = true := decide_eq_true c12
        try have c12b2 : (9223372036854775807 < 4 + t122.size + 1 + t123.size + 1) = False := eq_false (Nat.not_lt.2 c12)
        obtain rfl := Option.some.inj H
        go_wp2_with (first | ((with_reducible refine gate_callee (f := 74) rfl ?_); refine goesL_ (some 29) rfl rfl Tryz.func74 (by kernel_rfl) rfl #[.int .u32 x3_1] rfl (by (try simp only [List.map_toArray, List.map_cons, List.map_nil]); first | done | rfl | (simp only [List.length_drop, List.length_take]; rfl)) ?_; (with_reducible refine (bank_hex.calls x3_1 t122 _ ?side1 A7.out).mono ?_); (case side1 => exact GG.below HG.out (by repeat (first | (with_reducible first | exact HB.out | apply below_alloc | apply pw_below_drewN | apply below_drew1) | exact HB.out))); rintro e w13 ⟨rfl, hb⟩; refine ⟨_, rfl, ?_⟩; have n0_ := Aside0.mk (below_step (by repeat (first | (with_reducible first | exact HB.out | apply below_alloc | apply pw_below_drewN | apply below_drew1) | exact HB.out)) hb); clear HB; have HB := n0_; clear n0_; (try clear hb); (try clear hb2); (try clear hk); (try clear hi)) | ((with_reducible refine gate_callee (f := 74) rfl ?_); refine goesL_ (some 33) rfl rfl Tryz.func74 (by kernel_rfl) rfl #[.int .u32 x4_1] rfl (by (try simp only [List.map_toArray, List.map_cons, List.map_nil]); first | done | rfl | (simp only [List.length_drop, List.length_take]; rfl)) ?_; (with_reducible refine (bank_hex.calls x4_1 t123 _ ?side1 A10.out).mono ?_); (case side1 => exact GG.below HG.out (by repeat (first | (with_reducible first | exact HB.out | apply below_alloc | apply pw_below_drewN | apply below_drew1) | exact HB.out))); rintro e w14 ⟨rfl, hb⟩; refine ⟨_, rfl, ?_⟩; have n0_ := Aside0.mk (below_step (by repeat (first | (with_reducible first | exact HB.out | apply below_alloc | apply pw_below_drewN | apply below_drew1) | exact HB.out)) hb); clear HB; have HB := n0_; clear n0_; (try clear hb); (try clear hb2); (try clear hk); (try clear hi)))
        go_ret
        exact ⟨by first | rfl | (simp [errW_none, errW_some] <;> rfl) | (simp [*, errW_none, errW_some] <;> rfl), by repeat (first | (with_reducible first | exact HB.out | apply below_alloc | apply pw_below_drewN | apply below_drew1) | exact HB.out)⟩
       ·
        rw [if_neg c12] at H
        exact absurd H (by simp)
      ·
       rw [if_neg c11] at H
       exact absurd H (by simp)
     ·
      rw [if_neg c9] at H
      exact absurd H (by simp)
    ·
     rw [if_neg c8] at H
     exact absurd H (by simp)
end Go.Proofs.YtndojpcjhkncgaaGreatDoor.Q
end

section
namespace Go.Proofs.YtndojpcjhkncgaaGreatDoor.Q
open Go Go.RowKit Go.Proofs.YtndojpcjhkncgaaGreatDoorW.PrintWords Go.Proofs.YtndojpcjhkncgaaGreatDoorW.PrintLast Go.Proofs.YtndojpcjhkncgaaGreatDoorW.PrintMore
set_option linter.unusedVariables false
set_option linter.unusedSimpArgs false
theorem String_b (w0 : World) (b : Nat) (l : List UInt8) (W : World) (h : Bd w0 b l W) :
    Calls Tryz.prog 63 #[.pointer (some ⟨b, 0, none⟩)] W fun e W' => e = .returned (.string ⟨l.toArray⟩) ∧ Bd w0 b l W' ∧ Ok b W W' := by
  refine (Tryz.Builder_String_any_k w0.heap.size b l W h.is h.low.size).mono ?_
  rintro e W' ⟨rfl, h1, h2, h3⟩
  exact ⟨rfl, ⟨h1, h.low.trans h2⟩, ⟨h3⟩⟩
theorem Bd.new (w0 W : World) (h : Below w0.heap.size w0 W) : Bd w0 W.heap.size [] (W.alloc (.cells #[.pointer none, .slice none 0 0] 100)) := by
  refine ⟨.inl ⟨h.size, _, heap_alloc_new W _, ?_, by simp [Value.ownBlock]⟩, below_alloc h _⟩
  exact World.ownsRowF_nil _ _ _ _
def closedL (k : Nat) (l : List UInt8) : Option ByteArray :=
  if l.length ≤ 140737488355328 then (bank_end.f k ⟨l.toArray⟩).bind fun e => if l.length + e.size ≤ 9223372036854775807 then some ((⟨l.toArray⟩ : ByteArray) ++ e) else none else none
set_option maxHeartbeats 1000000 in
set_option maxRecDepth 100000 in
theorem written_W (w0 : World) (hG : GG w0) (W : World) (hB : Below w0.heap.size w0 W) (gf : Nat) (l : List UInt8) (k : Nat) (r : ByteArray) (hr : closedL k l = some r) (hgf : gf < W.heap.size) (cs : Array Value) (t : TypeId) (ht : t ≠ 5) (hf : W.heap[gf]? = some (.cells cs t (0, 0)))
    (hL : ∀ b W', Bd w0 b [] W' → W'.heap[gf]? = some (.cells cs t (0, 0)) → gf ≠ b → Calls Tryz.prog 45 #[.func (.func 59) #[] #[.pointer (some ⟨b, 0, none⟩)], .pointer (some ⟨gf, 0, none⟩)] W' fun e W2 => e = .returned (.tuple #[]) ∧ Bd w0 b l W2 ∧ Ok b W' W2) :
    Calls Tryz.prog 44 #[.func (.func 45) #[] #[.pointer (some ⟨gf, 0, none⟩)]] W fun e W' => e = .returned (.string r) ∧ Below w0.heap.size w0 W' := by
  obtain ⟨hll, e, he, hle, hre⟩ : l.length ≤ 140737488355328 ∧ ∃ e, bank_end.f k ⟨l.toArray⟩ = some e ∧ l.length + e.size ≤ 9223372036854775807 ∧ (⟨l.toArray⟩ : ByteArray) ++ e = r := by
    unfold closedL at hr
    split at hr
    · rename_i h1
      obtain ⟨e, he, hr⟩ := Option.bind_eq_some_iff.mp hr
      split at hr
      · rename_i h2
        exact ⟨h1, e, he, h2, Option.some.inj hr⟩
      · cases hr
    · cases hr
  have HN := Lib.hid (hL W.heap.size _ (Bd.new w0 W hB) ((below_alloc (Below.refl W.heap.size W) _).block gf hgf |>.trans hf) (by omega))
  obtain ⟨s, hs⟩ : ∃ s : ByteArray, s = ⟨l.toArray⟩ := ⟨_, rfl⟩
  have hsz : s.size + e.size ≤ 9223372036854775807 := by rw [hs]; show l.toArray.size + _ ≤ _; rw [List.size_toArray]; exact hle
  have HStr : ∀ W', Bd w0 W.heap.size l W' → Calls Tryz.prog 63 #[.pointer (some ⟨W.heap.size, 0, none⟩)] W' fun e W2 => e = .returned (.string s) ∧ Bd w0 W.heap.size l W2 ∧ Ok W.heap.size W' W2 := by rw [hs]; exact fun W' h => String_b w0 _ l W' h
  have HEnd : ∀ W', Below w0.heap.size w0 W' → Calls Tryz.prog 64 #[.string s] W' fun e' W2 => e' = .returned (.string e) ∧ Below W'.heap.size W' W2 := fun W' h => by rw [hs]; exact bank_end.calls k _ e W' (hG.below h) he
  have HS := Lib.hid HStr
  have HE := Lib.hid HEnd
  have HR := Lib.hid (show s ++ e = r by rw [hs]; exact hre)
  clear hL hr hG hB hll he hle hre hs HStr HEnd hf hgf ht
  go_enter Tryz.func44, Tryz.ntmps44
  go_wp2_with fail
  refine HN.out.mono ?_
  rintro e1 W1 ⟨rfl, hI1, hk1⟩
  have HI1 := Lib.hid hI1
  clear hI1 hk1 HN
  go_wp2_with fail
  refine (HS.out _ HI1.out).mono ?_
  rintro e1 W2 ⟨rfl, hI2, hk2⟩
  have HI2 := Lib.hid hI2
  clear hI2 hk2
  go_wp2_with fail
  refine (HS.out _ HI2.out).mono ?_
  rintro e1 W3 ⟨rfl, hI3, hk3⟩
  have HI3 := Lib.hid hI3
  clear hI3 hk3
  go_wp2_with fail
  refine (HE.out _ HI3.out.low).mono ?_
  rintro e1 W4 ⟨rfl, hb4⟩
  have HB4 := Lib.hid (below_then HI3.out.low HI3.out.low.size hb4)
  clear hb4
  go_wp2_with fail
  go_ret
  exact ⟨by rw [← HR.out]; rfl, HB4.out⟩
set_option maxHeartbeats 1000000 in
set_option maxRecDepth 100000 in
theorem written_A (w0 : World) (hG : GG w0) (W : World) (hB : Below w0.heap.size w0 W) (gf : Nat) (l : List UInt8) (k : Nat) (r : ByteArray) (hr : closedL k l = some r) (hgf : gf < W.heap.size) (cs : Array Value) (t : TypeId) (ht : t ≠ 5) (hf : W.heap[gf]? = some (.cells cs t (0, 0)))
    (hL : ∀ b W', Bd w0 b [] W' → W'.heap[gf]? = some (.cells cs t (0, 0)) → gf ≠ b → Calls Tryz.prog 54 #[.func (.func 59) #[] #[.pointer (some ⟨b, 0, none⟩)], .pointer (some ⟨gf, 0, none⟩)] W' fun e W2 => e = .returned (.tuple #[]) ∧ Bd w0 b l W2 ∧ Ok b W' W2) :
    Calls Tryz.prog 44 #[.func (.func 54) #[] #[.pointer (some ⟨gf, 0, none⟩)]] W fun e W' => e = .returned (.string r) ∧ Below w0.heap.size w0 W' := by
  obtain ⟨hll, e, he, hle, hre⟩ : l.length ≤ 140737488355328 ∧ ∃ e, bank_end.f k ⟨l.toArray⟩ = some e ∧ l.length + e.size ≤ 9223372036854775807 ∧ (⟨l.toArray⟩ : ByteArray) ++ e = r := by
    unfold closedL at hr
    split at hr
    · rename_i h1
      obtain ⟨e, he, hr⟩ := Option.bind_eq_some_iff.mp hr
      split at hr
      · rename_i h2
        exact ⟨h1, e, he, h2, Option.some.inj hr⟩
      · cases hr
    · cases hr
  have HN := Lib.hid (hL W.heap.size _ (Bd.new w0 W hB) ((below_alloc (Below.refl W.heap.size W) _).block gf hgf |>.trans hf) (by omega))
  obtain ⟨s, hs⟩ : ∃ s : ByteArray, s = ⟨l.toArray⟩ := ⟨_, rfl⟩
  have hsz : s.size + e.size ≤ 9223372036854775807 := by rw [hs]; show l.toArray.size + _ ≤ _; rw [List.size_toArray]; exact hle
  have HStr : ∀ W', Bd w0 W.heap.size l W' → Calls Tryz.prog 63 #[.pointer (some ⟨W.heap.size, 0, none⟩)] W' fun e W2 => e = .returned (.string s) ∧ Bd w0 W.heap.size l W2 ∧ Ok W.heap.size W' W2 := by rw [hs]; exact fun W' h => String_b w0 _ l W' h
  have HEnd : ∀ W', Below w0.heap.size w0 W' → Calls Tryz.prog 64 #[.string s] W' fun e' W2 => e' = .returned (.string e) ∧ Below W'.heap.size W' W2 := fun W' h => by rw [hs]; exact bank_end.calls k _ e W' (hG.below h) he
  have HS := Lib.hid HStr
  have HE := Lib.hid HEnd
  have HR := Lib.hid (show s ++ e = r by rw [hs]; exact hre)
  clear hL hr hG hB hll he hle hre hs HStr HEnd hf hgf ht
  go_enter Tryz.func44, Tryz.ntmps44
  go_wp2_with fail
  refine HN.out.mono ?_
  rintro e1 W1 ⟨rfl, hI1, hk1⟩
  have HI1 := Lib.hid hI1
  clear hI1 hk1 HN
  go_wp2_with fail
  refine (HS.out _ HI1.out).mono ?_
  rintro e1 W2 ⟨rfl, hI2, hk2⟩
  have HI2 := Lib.hid hI2
  clear hI2 hk2
  go_wp2_with fail
  refine (HS.out _ HI2.out).mono ?_
  rintro e1 W3 ⟨rfl, hI3, hk3⟩
  have HI3 := Lib.hid hI3
  clear hI3 hk3
  go_wp2_with fail
  refine (HE.out _ HI3.out.low).mono ?_
  rintro e1 W4 ⟨rfl, hb4⟩
  have HB4 := Lib.hid (below_then HI3.out.low HI3.out.low.size hb4)
  clear hb4
  go_wp2_with fail
  go_ret
  exact ⟨by rw [← HR.out]; rfl, HB4.out⟩
def intOk (n : Int) : Bool := decide (-9223372036854775808 ≤ n) && decide (n ≤ 9223372036854775807)
theorem intOk_all {l : List Int} (h : l.all intOk = true) : ∀ n ∈ l, -9223372036854775808 ≤ n ∧ n ≤ 9223372036854775807 := by
  intro n hn
  have := List.all_eq_true.mp h n hn
  simpa [intOk] using this
def fitsF (a0 a1 : Int) (l : List S47) (s : Int) : Bool := [a0, a1, (l.length : Int), s].all intOk && l.all fun o => [o.f0, o.f1, o.f2, o.f3, o.f4].all intOk
def fitsA (a0 a1 : Int) (l : List S49) : Bool := [a0, a1, (l.length : Int)].all intOk && l.all fun o => [o.f0, o.f1].all intOk
def bank_Write.f (k : Nat) (a0 a1 : Int) (l : List S47) : Option (ByteArray × Int) := (bank_Valid.f k a0 a1 l).bind fun t => if t = true then ((bank_total.f k a0 a1 l).bind fun s => if fitsF a0 a1 l s = true then ((closedL k (fileL a0 a1 l s)).bind fun x => some (x, 0)) else none) else some (⟨#[]⟩, 2)
def bank_WriteAnswer.f (k : Nat) (a0 a1 : Int) (l : List S49) : Option (ByteArray × Int) := (bank_Right.f k a0 a1 l).bind fun t => if t = true then (if fitsA a0 a1 l = true then ((closedL k (answerL a0 a1 l)).bind fun x => some (x, 0)) else none) else some (⟨#[]⟩, 2)
theorem closedL.mono (k : Nat) (l : List UInt8) : LeO (closedL k l) (closedL (k + 1) l) := by
  unfold closedL
  exact LeO.ite (LeO.bind (bank_end.mono _ _) fun _ => LeO.refl _) (LeO.none _)
set_option maxHeartbeats 1000000 in
set_option maxRecDepth 100000 in
theorem bank_Write.calls (k : Nat) (a0_0 : Int) (a0_1 : Int) (A0_2 : Option Addr) (c0_2 : Nat) (l0_2 : List (S47)) (r1 : ByteArray) (r2 : Int) (w : World) (hr0_2 : Kd.C k47 w A0_2 l0_2.length l0_2) (hc0_2 : l0_2.length ≤ c0_2) (hG : GG w) (h : bank_Write.f k a0_0 a0_1 l0_2 = some (r1, r2)) :
    Calls Tryz.prog 23 #[.agg #[.int .i64 a0_0, .int .i64 a0_1, .slice A0_2 l0_2.length c0_2]] w fun e w' => e = .returned (.tuple #[.string r1, .int .i64 r2]) ∧ Below w.heap.size w w' := by
  have hb0 := below_alloc (Below.refl w.heap.size w) (.cells #[.int .i64 a0_0, .int .i64 a0_1, .slice A0_2 l0_2.length c0_2] 27)
  have hf0 := heap_alloc_new w (.cells #[.int .i64 a0_0, .int .i64 a0_1, .slice A0_2 l0_2.length c0_2] 27)
  unfold bank_Write.f at h
  obtain ⟨t, ht, h⟩ := Option.bind_eq_some_iff.mp h
  have HV := Lib.hid (bank_Valid.calls k a0_0 a0_1 A0_2 c0_2 l0_2 t _ (Kd.C_below hr0_2 hb0) hc0_2 ht)
  have HB0 := Lib.hid hb0
  have HF0 := Lib.hid hf0
  cases t with
  | false =>
    simp only [Bool.false_eq_true, if_false, Option.some.injEq, Prod.mk.injEq] at h
    obtain ⟨rfl, rfl⟩ := h
    clear hr0_2 hc0_2 hG hb0 hf0 ht
    go_enter Tryz.func23, Tryz.ntmps23
    go_wp2_with fail
    refine HV.out.mono ?_
    rintro e W1 ⟨rfl, hb1⟩
    have HB1 := Lib.hid (below_then HB0.out HB0.out.size hb1)
    clear hb1 HV
    go_wp2_with fail
    go_ret2
    exact ⟨rfl, HB1.out⟩
  | true =>
    simp only [if_true] at h
    obtain ⟨s, hs, h⟩ := Option.bind_eq_some_iff.mp h
    split at h
    · rename_i hfit
      obtain ⟨x, hx, h⟩ := Option.bind_eq_some_iff.mp h
      simp only [Option.some.injEq, Prod.mk.injEq] at h
      obtain ⟨rfl, rfl⟩ := h
      unfold fitsF at hfit
      obtain ⟨h1, h2⟩ := Bool.and_eq_true_iff.mp hfit
      have hlen : (fileL a0_0 a0_1 l0_2 s).length ≤ 140737488355328 := by
        unfold closedL at hx
        split at hx
        · assumption
        · cases hx
      have HW : ∀ W1, Below (w.alloc (.cells #[.int .i64 a0_0, .int .i64 a0_1, .slice A0_2 l0_2.length c0_2] 27)).heap.size (w.alloc (.cells #[.int .i64 a0_0, .int .i64 a0_1, .slice A0_2 l0_2.length c0_2] 27)) W1 →
          Calls Tryz.prog 44 #[.func (.func 45) #[] #[.pointer (some ⟨w.heap.size, 0, none⟩)]] W1 fun e W' => e = .returned (.string x) ∧ Below w.heap.size w W' := by
        intro W1 hb1
        have hz : w.heap.size < (w.alloc (.cells #[.int .i64 a0_0, .int .i64 a0_1, .slice A0_2 l0_2.length c0_2] 27)).heap.size := (Array.getElem?_eq_some_iff.1 hf0).1
        have hf1 := (hb1.block _ hz).trans hf0
        refine written_W w hG W1 (below_then hb0 hb0.size hb1) w.heap.size _ k x hx (Nat.lt_of_lt_of_le hz hb1.size) _ 27 (by decide) hf1 ?_
        intro b W' hI hg hgb
        exact Write1_go w hG b w.heap.size [] a0_0 a0_1 A0_2 c0_2 l0_2 W' hI hg hgb hr0_2 hc0_2 k s hs (intOk_all h1) (fun o ho => intOk_all (List.all_eq_true.mp h2 o ho)) (by simpa using hlen)
      have HWr := Lib.hid HW
      clear hr0_2 hc0_2 hG hb0 hf0 ht HW hlen h1 h2 hfit hx hs
      go_enter Tryz.func23, Tryz.ntmps23
      go_wp2_with fail
      refine HV.out.mono ?_
      rintro e W1 ⟨rfl, hb1⟩
      have HB1 := Lib.hid hb1
      clear hb1 HV
      go_wp2_with fail
      refine (HWr.out _ HB1.out).mono ?_
      rintro e W2 ⟨rfl, hb2⟩
      have HB2 := Lib.hid hb2
      clear hb2
      go_wp2_with fail
      go_ret2
      exact ⟨rfl, HB2.out⟩
    · cases h
set_option maxHeartbeats 1000000 in
set_option maxRecDepth 100000 in
theorem bank_WriteAnswer.calls (k : Nat) (a0_0 : Int) (a0_1 : Int) (A0_2 : Option Addr) (c0_2 : Nat) (l0_2 : List (S49)) (r1 : ByteArray) (r2 : Int) (w : World) (hr0_2 : Kd.C k49 w A0_2 l0_2.length l0_2) (hc0_2 : l0_2.length ≤ c0_2) (hG : GG w) (h : bank_WriteAnswer.f k a0_0 a0_1 l0_2 = some (r1, r2)) :
    Calls Tryz.prog 29 #[.agg #[.int .i64 a0_0, .int .i64 a0_1, .slice A0_2 l0_2.length c0_2]] w fun e w' => e = .returned (.tuple #[.string r1, .int .i64 r2]) ∧ Below w.heap.size w w' := by
  have hb0 := below_alloc (Below.refl w.heap.size w) (.cells #[.int .i64 a0_0, .int .i64 a0_1, .slice A0_2 l0_2.length c0_2] 30)
  have hf0 := heap_alloc_new w (.cells #[.int .i64 a0_0, .int .i64 a0_1, .slice A0_2 l0_2.length c0_2] 30)
  unfold bank_WriteAnswer.f at h
  obtain ⟨t, ht, h⟩ := Option.bind_eq_some_iff.mp h
  have HV := Lib.hid (bank_Right.calls k a0_0 a0_1 A0_2 c0_2 l0_2 t _ (Kd.C_below hr0_2 hb0) hc0_2 ht)
  have HB0 := Lib.hid hb0
  have HF0 := Lib.hid hf0
  cases t with
  | false =>
    simp only [Bool.false_eq_true, if_false, Option.some.injEq, Prod.mk.injEq] at h
    obtain ⟨rfl, rfl⟩ := h
    clear hr0_2 hc0_2 hG hb0 hf0 ht
    go_enter Tryz.func29, Tryz.ntmps29
    go_wp2_with fail
    refine HV.out.mono ?_
    rintro e W1 ⟨rfl, hb1⟩
    have HB1 := Lib.hid (below_then HB0.out HB0.out.size hb1)
    clear hb1 HV
    go_wp2_with fail
    go_ret2
    exact ⟨rfl, HB1.out⟩
  | true =>
    simp only [if_true] at h
    split at h
    · rename_i hfit
      obtain ⟨x, hx, h⟩ := Option.bind_eq_some_iff.mp h
      simp only [Option.some.injEq, Prod.mk.injEq] at h
      obtain ⟨rfl, rfl⟩ := h
      unfold fitsA at hfit
      obtain ⟨h1, h2⟩ := Bool.and_eq_true_iff.mp hfit
      have hlen : (answerL a0_0 a0_1 l0_2).length ≤ 140737488355328 := by
        unfold closedL at hx
        split at hx
        · assumption
        · cases hx
      have HW : ∀ W1, Below (w.alloc (.cells #[.int .i64 a0_0, .int .i64 a0_1, .slice A0_2 l0_2.length c0_2] 30)).heap.size (w.alloc (.cells #[.int .i64 a0_0, .int .i64 a0_1, .slice A0_2 l0_2.length c0_2] 30)) W1 →
          Calls Tryz.prog 44 #[.func (.func 54) #[] #[.pointer (some ⟨w.heap.size, 0, none⟩)]] W1 fun e W' => e = .returned (.string x) ∧ Below w.heap.size w W' := by
        intro W1 hb1
        have hz : w.heap.size < (w.alloc (.cells #[.int .i64 a0_0, .int .i64 a0_1, .slice A0_2 l0_2.length c0_2] 30)).heap.size := (Array.getElem?_eq_some_iff.1 hf0).1
        have hf1 := (hb1.block _ hz).trans hf0
        refine written_A w hG W1 (below_then hb0 hb0.size hb1) w.heap.size _ k x hx (Nat.lt_of_lt_of_le hz hb1.size) _ 30 (by decide) hf1 ?_
        intro b W' hI hg hgb
        exact WriteAnswer1_go w hG b w.heap.size [] a0_0 a0_1 A0_2 c0_2 l0_2 W' hI hg hgb hr0_2 hc0_2 (intOk_all h1) (fun o ho => intOk_all (List.all_eq_true.mp h2 o ho)) (by simpa using hlen)
      have HWr := Lib.hid HW
      clear hr0_2 hc0_2 hG hb0 hf0 ht HW hlen h1 h2 hfit hx
      go_enter Tryz.func29, Tryz.ntmps29
      go_wp2_with fail
      refine HV.out.mono ?_
      rintro e W1 ⟨rfl, hb1⟩
      have HB1 := Lib.hid hb1
      clear hb1 HV
      go_wp2_with fail
      refine (HWr.out _ HB1.out).mono ?_
      rintro e W2 ⟨rfl, hb2⟩
      have HB2 := Lib.hid hb2
      clear hb2
      go_wp2_with fail
      go_ret2
      exact ⟨rfl, HB2.out⟩
    · cases h
end Go.Proofs.YtndojpcjhkncgaaGreatDoor.Q
end

section

end

section

end

section

end

section

end

section

end

section

end

section
namespace Go.Proofs.YtndojpcjhkncgaaGreatDoor.Q
open Go.RowKit Go.Proofs.YtndojpcjhkncgaaGreatDoorW.PrintWords
set_option linter.unusedVariables false
set_option linter.unusedSimpArgs false
def B (l : List UInt8) : ByteArray := ⟨l.toArray⟩
theorem B_size (l : List UInt8) : (B l).size = l.length := by show l.toArray.size = _; simp
theorem B_cat (a b : List UInt8) : B a ++ B b = B (a ++ b) := by
  apply ByteArray.ext
  rw [ByteArray.data_append]
  simp [B]
theorem B_nums (xs : List Int) : strOfNums xs = B (xs.map fun n => UInt8.ofNat n.toNat) := rfl
theorem B_list (l : List UInt8) : (B l).toList = l := by rw [ByteArray.toList_eq]; simp [B] 
theorem B_bt (l : List UInt8) (i : Nat) (h : i < l.length) : bt (B l) (i : Int) = (l[i].toNat : Int) := by
  unfold bt
  rw [dif_pos (by rw [B_size]; simpa using h)]
  rfl
theorem itoa_len (n : Int) (h0 : -4611686018427387904 ≤ n) (h1 : n ≤ 4611686018427387904) : (Lib.itoa n).length ≤ 21 := Lib.itoa_length_le n (by omega) (by omega)
theorem dec_small (u : Nat) (h : u < 10) : Lib.decDigits u = [UInt8.ofNat (48 + u)] := by rw [Lib.decDigits, dif_pos h]
theorem dec_big (u : Nat) (h : ¬ u < 10) : Lib.decDigits u = Lib.decDigits (u / 10) ++ [UInt8.ofNat (48 + u % 10)] := by rw [Lib.decDigits, dif_neg h]
def okI (n : Int) : Prop := -4611686018427387904 ≤ n ∧ n ≤ 4611686018427387904
theorem numsL_cons (n : Int) (l : List Int) : numsL (n :: l) = [32] ++ Lib.itoa n ++ numsL l := by simp [numsL]
theorem numsL_len : ∀ (l : List Int), (∀ n ∈ l, okI n) → (numsL l).length ≤ 22 * l.length
  | [], _ => by simp [numsL]
  | n :: l, h => by
    have h1 := numsL_len l (fun m hm => h m (List.mem_cons_of_mem _ hm))
    have h2 := itoa_len n (h n (List.mem_cons_self)).1 (h n (List.mem_cons_self)).2
    rw [numsL_cons]
    simp only [List.length_append, List.length_cons, List.length_nil]
    omega
theorem lineL_len (word : List UInt8) (ns : List Int) (hn : ∀ n ∈ ns, okI n) : (lineL word ns).length ≤ word.length + 22 * ns.length + 1 := by
  have := numsL_len ns hn
  unfold lineL
  simp only [List.length_append, List.length_cons, List.length_nil]
  omega
def hexR : Nat → Nat → List UInt8
  | 0, _ => []
  | j + 1, n => hexR j (n / 16) ++ [dig (n % 16)]
theorem hexR_zero : ∀ j, hexR j 0 = List.replicate j 48
  | 0 => rfl
  | j + 1 => by rw [hexR, Nat.zero_div, hexR_zero j, List.replicate_succ']; rfl
theorem hexR_eq : ∀ (j n : Nat), n < 16 ^ (j + 1) → hexR (j + 1) n = List.replicate (j + 1 - (hexL n).length) 48 ++ hexL n := by
  intro j
  induction j with
  | zero => intro n hn; rw [hexL_small n (by simpa using hn)]; simp [hexR]; rw [Nat.mod_eq_of_lt (by simpa using hn)]
  | succ j ih =>
    intro n hn
    rw [hexR]
    by_cases h : n < 16
    · rw [Nat.div_eq_of_lt h, hexR_zero, hexL_small n h, Nat.mod_eq_of_lt h]; simp
    · rw [ih (n / 16) (by rw [Nat.div_lt_iff_lt_mul (by omega), ← Nat.pow_succ]; exact hn), hexL_big n (by omega)]
      simp [List.append_assoc]
theorem hexR_8 (n : Nat) (h : n < 4294967296) : hexR 8 n = hex8 n := hexR_eq 7 n (by omega)
theorem hexR_len : ∀ j n, (hexR j n).length = j
  | 0, _ => rfl
  | j + 1, n => by rw [hexR, List.length_append, hexR_len j]; rfl
theorem hex8_len (n : Nat) (h : n < 4294967296) : (hex8 n).length = 8 := by rw [← hexR_8 n h, hexR_len]
def sums : Nat → Nat → Nat → List UInt8 → Nat × Nat
  | _, a, w, [] => (a, w)
  | i, a, w, c :: l => sums (i + 1) ((a + c.toNat) % 4294967296) ((w + (i + 1) * c.toNat) % 4294967296) l
theorem sums_lt : ∀ (l : List UInt8) (i a w : Nat), a < 4294967296 → w < 4294967296 → (sums i a w l).1 < 4294967296 ∧ (sums i a w l).2 < 4294967296
  | [], _, _, _, h, h' => ⟨h, h'⟩
  | c :: l, i, a, w, h, h' => sums_lt l (i + 1) _ _ (Nat.mod_lt _ (by omega)) (Nat.mod_lt _ (by omega))
def endL (l : List UInt8) : List UInt8 := [69, 78, 68, 32] ++ hex8 (sums 0 0 0 l).1 ++ [32] ++ hex8 (sums 0 0 0 l).2 ++ [10]
theorem endL_len (l : List UInt8) : (endL l).length = 22 := by
  have h := sums_lt l 0 0 0 (by omega) (by omega)
  unfold endL
  simp only [List.length_append, List.length_cons, List.length_nil]
  rw [hex8_len _ h.1, hex8_len _ h.2]
theorem end_text (a w : Nat) (ha : a < 4294967296) (hw : w < 4294967296) {f : Nat → Option ByteArray} {g : Nat → Option ByteArray} (hf : Ev f (B (hex8 a))) (hg : Ev g (B (hex8 w))) :
    Ev (fun k => (f k).bind fun t210 => (if 4 + t210.size ≤ 9223372036854775807 then (if 4 + t210.size + 1 ≤ 9223372036854775807 then ((g k).bind fun t211 => (if 4 + t210.size + 1 + t211.size ≤ 9223372036854775807 then (if 4 + t210.size + 1 + t211.size + 1 ≤ 9223372036854775807 then (some (((((⟨#[69, 78, 68, 32]⟩ : ByteArray) ++ t210) ++ (⟨#[32]⟩ : ByteArray)) ++ t211) ++ (⟨#[10]⟩ : ByteArray))) else (none)) else (none))) else (none)) else (none)))
      (B ([69, 78, 68, 32] ++ hex8 a ++ [32] ++ hex8 w ++ [10])) := by
  have h1 := hex8_len a ha
  have h2 := hex8_len w hw
  refine Ev.bind hf (Ev.pos (by rw [B_size]; omega) (Ev.pos (by rw [B_size]; omega) (Ev.bind hg (Ev.pos (by rw [B_size, B_size]; omega) (Ev.pos (by rw [B_size, B_size]; omega) (Ev.ret ?_))))))
  rw [show (⟨#[69, 78, 68, 32]⟩ : ByteArray) = B [69, 78, 68, 32] from rfl, show (⟨#[32]⟩ : ByteArray) = B [32] from rfl, show (⟨#[10]⟩ : ByteArray) = B [10] from rfl, B_cat, B_cat, B_cat, B_cat]
theorem bankhex_ev (n : Nat) (hn : n < 4294967296) : Ev (fun _ => bank_hex.f (n : Int)) (B (hex8 n)) := Ev.fix (by unfold bank_hex.f; rw [if_pos (by omega)]; rfl)
theorem bankEnd_l0 (L : List UInt8) (hL : L.length ≤ 4398046511104) (d : Nat) : ∀ (i a w : Nat), i + d = L.length → a < 4294967296 → w < 4294967296 →
    Ev (fun k => bank_end.l0 k (B L) (a : Int) (w : Int) (L.length : Int) (i : Int)) (B ([69, 78, 68, 32] ++ hex8 (sums i a w (L.drop i)).1 ++ [32] ++ hex8 (sums i a w (L.drop i)).2 ++ [10])) := by
  induction d with
  | zero =>
    intro i a w hi ha hw
    rw [List.drop_eq_nil_of_le (by omega)]
    exact Ev.step (fun k => by rw [bank_end.l0]) (Ev.neg (by omega) (end_text a w ha hw (bankhex_ev a ha) (bankhex_ev w hw)))
  | succ d ih =>
    intro i a w hi ha hw
    have hlt : i < L.length := by omega
    rw [drop_get L i hlt]
    refine Ev.step (fun k => by rw [bank_end.l0]) (Ev.pos (by omega) (Ev.pos (by omega) (Ev.pos (by rw [B_size]; omega) ?_)))
    obtain ⟨c, hc⟩ : ∃ c, L[i] = c := ⟨_, rfl⟩
    rw [B_bt L i hlt, hc]
    have hb := c.toNat_lt
    rw [w64 (n := (i : Int) + 1) (by omega) (by omega)]
    have e1 : (((a : Int) + ((c.toNat : Int) % 4294967296)) % 4294967296) = (((a + c.toNat) % 4294967296 : Nat) : Int) := by omega
    have e2 : (((w : Int) + (((((i : Int) + 1) % 4294967296) * ((c.toNat : Int) % 4294967296)) % 4294967296)) % 4294967296) = (((w + (i + 1) * c.toNat) % 4294967296 : Nat) : Int) := by
      rw [← Int.mul_emod, show ((i : Int) + 1) * (c.toNat : Int) = (((i + 1) * c.toNat : Nat) : Int) by rw [Int.natCast_mul, Int.natCast_add]; rfl]
      omega
    rw [e1, e2]
    exact ih (i + 1) ((a + c.toNat) % 4294967296) ((w + (i + 1) * c.toNat) % 4294967296) (by omega) (Nat.mod_lt _ (by omega)) (Nat.mod_lt _ (by omega))
theorem bankEnd_ev (L : List UInt8) (hL : L.length ≤ 4398046511104) : Ev (fun k => bank_end.f k (B L)) (B (endL L)) := by
  unfold bank_end.f
  rw [B_size]
  exact bankEnd_l0 L hL L.length 0 0 0 (by omega) (by omega) (by omega)
theorem closed_ev (L : List UInt8) (hL : L.length ≤ 4398046511104) : Ev (fun k => closedL k L) (B (L ++ endL L)) := by
  unfold closedL
  refine Ev.pos (by omega) (Ev.bind (bankEnd_ev L hL) (Ev.pos (by rw [B_size, endL_len]; omega) (Ev.ret ?_)))
  exact B_cat L (endL L)
end Go.Proofs.YtndojpcjhkncgaaGreatDoor.Q
end

section
namespace Go.Proofs.YtndojpcjhkncgaaGreatDoor.Q
open Go.RowKit Go.Proofs.YtndojpcjhkncgaaGreatDoorW.PrintWords
set_option linter.unusedVariables false
set_option linter.unusedSimpArgs false
theorem okI_intOk {n : Int} (h : okI n) : intOk n = true := by unfold okI at h; simp [intOk]; omega
theorem order_okI {o : S47} (h : orderB o = true) : ∀ n ∈ [o.f0, o.f1, o.f2, o.f3, o.f4], okI n := by
  simp only [orderB, countB, Bool.and_eq_true, decide_eq_true_eq] at h
  unfold okI
  intro n hn
  simp only [List.mem_cons, List.not_mem_nil, or_false] at hn
  omega
theorem orders_mem : ∀ (l : List S47) (last tot : Int), ordersB last tot l = true → ∀ o ∈ l, orderB o = true
  | [], _, _, _, o, ho => by cases ho
  | x :: l, last, tot, h, o, ho => by
    simp only [ordersB, Bool.and_eq_true] at h
    rcases List.mem_cons.mp ho with rfl | ho
    · exact h.1
    · exact orders_mem l _ _ h.2.2.2 o ho
theorem head_okI {n d : Int} {L : List S47} (h : validB n d L = true) : ∀ m ∈ [n, d, (L.length : Int), netSum L], okI m := by
  obtain ⟨h0, h1, h2⟩ := valid_orders h
  have h3 := netSum_le L 0 0 (by omega) (by omega) h2
  simp only [datedB, countB, Bool.and_eq_true, decide_eq_true_eq] at h0
  unfold okI
  intro m hm
  simp only [List.mem_cons, List.not_mem_nil, or_false] at hm
  omega
theorem flat_len {α : Type} (f : α → List UInt8) (c : Nat) : ∀ (l : List α), (∀ x ∈ l, (f x).length ≤ c) → (l.flatMap f).length ≤ c * l.length
  | [], _ => by simp
  | x :: l, h => by
    have h1 := flat_len f c l (fun y hy => h y (List.mem_cons_of_mem _ hy))
    have h2 := h x (List.mem_cons_self)
    rw [List.flatMap_cons, List.length_append, List.length_cons, Nat.mul_add]
    omega
theorem orderL_len {o : S47} (h : orderB o = true) : (orderL o).length ≤ 116 := by
  have := lineL_len [111, 114, 100, 101, 114] _ (order_okI h)
  simpa [orderL] using this
theorem fileL_len {n d : Int} {L : List S47} (h : validB n d L = true) : (fileL n d L (netSum L)).length ≤ 92 + 116 * L.length := by
  obtain ⟨h0, h1, h2⟩ := valid_orders h
  have h3 := lineL_len [80, 65, 89] _ (head_okI h)
  have h4 := flat_len orderL 116 L (fun o ho => orderL_len (orders_mem L 0 0 h2 o ho))
  unfold fileL
  rw [List.length_append]
  simp only [List.length_cons, List.length_nil] at h3
  omega
theorem fits_valid {n d : Int} {L : List S47} (h : validB n d L = true) : fitsF n d L (netSum L) = true := by
  obtain ⟨h0, h1, h2⟩ := valid_orders h
  unfold fitsF
  rw [Bool.and_eq_true]
  refine ⟨List.all_eq_true.mpr fun m hm => okI_intOk (head_okI h m hm), List.all_eq_true.mpr fun o ho => List.all_eq_true.mpr fun m hm => okI_intOk (order_okI (orders_mem L 0 0 h2 o ho) m hm)⟩
def fileText (n d : Int) (L : List S47) : List UInt8 := fileL n d L (netSum L) ++ endL (fileL n d L (netSum L))
def writeS (n d : Int) (L : List S47) : ByteArray × Int := if validB n d L = true then (B (fileText n d L), 0) else (B [], 2)
theorem Write_ev (n d : Int) (L : List S47) (hL : (L.length : Int) ≤ 4611686018427387904) : Ev (fun k => bank_Write.f k n d L) (writeS n d L) := by
  unfold bank_Write.f writeS
  refine Ev.bind (Valid_ev n d L hL) ?_
  cases h : validB n d L with
  | false => exact Ev.neg (by simp) (Ev.now (B [], 2))
  | true =>
    have hl := fileL_len h
    have h1 := (valid_orders h).2.1
    refine Ev.pos rfl (Ev.bind (total_ev n d L h).1 (Ev.pos (fits_valid h) (Ev.bind (closed_ev _ (by omega)) ?_)))
    exact Ev.now (B (fileText n d L), 0)
theorem back_okI {o : S49} (h : backB o = true) : ∀ n ∈ [o.f0, o.f1], okI n := by
  simp only [backB, countB, Bool.and_eq_true, decide_eq_true_eq] at h
  unfold okI
  intro n hn
  simp only [List.mem_cons, List.not_mem_nil, or_false] at hn
  omega
theorem backs_mem : ∀ (l : List S49) (last : Int), backsB last l = true → ∀ o ∈ l, backB o = true
  | [], _, _, o, ho => by cases ho
  | x :: l, last, h, o, ho => by
    simp only [backsB, Bool.and_eq_true] at h
    rcases List.mem_cons.mp ho with rfl | ho
    · exact h.2.1
    · exact backs_mem l _ h.2.2 o ho
theorem right_parts {n d : Int} {L : List S49} (h : rightB n d L = true) : backsB 0 L = true ∧ datedB n d = true ∧ (L.length : Int) ≤ 1000 := by
  simp only [rightB, Bool.and_eq_true, decide_eq_true_eq] at h
  exact h
theorem headA_okI {n d : Int} {L : List S49} (h : rightB n d L = true) : ∀ m ∈ [n, d, (L.length : Int)], okI m := by
  obtain ⟨_, h0, h1⟩ := right_parts h
  simp only [datedB, countB, Bool.and_eq_true, decide_eq_true_eq] at h0
  unfold okI
  intro m hm
  simp only [List.mem_cons, List.not_mem_nil, or_false] at hm
  omega
theorem returnL_len {o : S49} (h : backB o = true) : (returnL o).length ≤ 51 := by
  have := lineL_len [114, 101, 116, 117, 114, 110] _ (back_okI h)
  simpa [returnL] using this
theorem answerL_len {n d : Int} {L : List S49} (h : rightB n d L = true) : (answerL n d L).length ≤ 71 + 51 * L.length := by
  obtain ⟨h2, h0, h1⟩ := right_parts h
  have h3 := lineL_len [66, 65, 67, 75] _ (headA_okI h)
  have h4 := flat_len returnL 51 L (fun o ho => returnL_len (backs_mem L 0 h2 o ho))
  unfold answerL
  rw [List.length_append]
  simp only [List.length_cons, List.length_nil] at h3
  omega
theorem fits_right {n d : Int} {L : List S49} (h : rightB n d L = true) : fitsA n d L = true := by
  obtain ⟨h2, h0, h1⟩ := right_parts h
  unfold fitsA
  rw [Bool.and_eq_true]
  refine ⟨List.all_eq_true.mpr fun m hm => okI_intOk (headA_okI h m hm), List.all_eq_true.mpr fun o ho => List.all_eq_true.mpr fun m hm => okI_intOk (back_okI (backs_mem L 0 h2 o ho) m hm)⟩
def answerText (n d : Int) (L : List S49) : List UInt8 := answerL n d L ++ endL (answerL n d L)
def answerS (n d : Int) (L : List S49) : ByteArray × Int := if rightB n d L = true then (B (answerText n d L), 0) else (B [], 2)
theorem WriteAnswer_ev (n d : Int) (L : List S49) (hL : (L.length : Int) ≤ 4611686018427387904) : Ev (fun k => bank_WriteAnswer.f k n d L) (answerS n d L) := by
  unfold bank_WriteAnswer.f answerS
  refine Ev.bind (Right_ev n d L hL) ?_
  cases h : rightB n d L with
  | false => exact Ev.neg (by simp) (Ev.now (B [], 2))
  | true =>
    have hl := answerL_len h
    have h1 := (right_parts h).2.2
    refine Ev.pos rfl (Ev.pos (fits_right h) (Ev.bind (closed_ev _ (by omega)) ?_))
    exact Ev.now (B (answerText n d L), 0)
end Go.Proofs.YtndojpcjhkncgaaGreatDoor.Q
end

section
namespace Go.Proofs.YtndojpcjhkncgaaGreatDoor.Q
open Go.RowKit Go.Proofs.YtndojpcjhkncgaaGreatDoorW.PrintWords Go.Proofs.YtndojpcjhkncgaaGreatDoorW.PrintLast Go.Proofs.YtndojpcjhkncgaaGreatDoorW.PrintMore
attribute [local go_sem] max2_int min2_int max_two min_two max_three min_three max_four min_four   -- for this text's walks alone
set_option linter.unusedVariables false
set_option linter.unusedSimpArgs false
theorem eqA47 (d : Nat) (w : World) (x0 y0 : Int) (x1 y1 : Int) (x2 y2 : Int) (x3 y3 : Int) (x4 y4 : Int) :
    (Op.equalIn (d + 2) 47 (.agg #[.int .i64 x0, .int .i64 x1, .int .i64 x2, .int .i64 x3, .int .i64 x4]) (.agg #[.int .i64 y0, .int .i64 y1, .int .i64 y2, .int .i64 y3, .int .i64 y4])).run Tryz.prog w = .ok (x0 == y0 && (x1 == y1 && (x2 == y2 && (x3 == y3 && (x4 == y4))))) w := by
  refine eqA_of Tryz.underlying47 (by kernel_rfl) ?_
  refine eqf_cons (by rfl) (by go_simp; rfl) (by go_simp; rfl) (by go_simp) ?_
  refine eqf_cons (by rfl) (by go_simp; rfl) (by go_simp; rfl) (by go_simp) ?_
  refine eqf_cons (by rfl) (by go_simp; rfl) (by go_simp; rfl) (by go_simp) ?_
  refine eqf_cons (by rfl) (by go_simp; rfl) (by go_simp; rfl) (by go_simp) ?_
  exact eqf_last (by rfl) (by go_simp; rfl) (by go_simp; rfl) (by go_simp)
end Go.Proofs.YtndojpcjhkncgaaGreatDoor.Q
end

section
namespace Go.Proofs.YtndojpcjhkncgaaGreatDoor.Q
open Go.RowKit Go.Proofs.YtndojpcjhkncgaaGreatDoorW.PrintWords Go.Proofs.YtndojpcjhkncgaaGreatDoorW.PrintLast Go.Proofs.YtndojpcjhkncgaaGreatDoorW.PrintMore
attribute [local go_sem] max2_int min2_int max_two min_two max_three min_three max_four min_four   -- for this text's walks alone
set_option linter.unusedVariables false
set_option linter.unusedSimpArgs false
def annuitantlaw36_two.f  : Option (Int × Int × (List (S47)) × Int × Int × (List (S49))) := some (7, 100, (([(⟨3, 55, 1000, 200, 800⟩ : S47), (⟨4, 56, 50, 0, 50⟩ : S47)] : List (S47))), 7, 102, (([(⟨4, 2⟩ : S49)] : List (S49))))
set_option maxHeartbeats 8000000 in
set_option maxRecDepth 100000 in
theorem annuitantlaw36_two.calls  (r1 : Int) (r2 : Int) (r3 : List (S47)) (r4 : Int) (r5 : Int) (r6 : List (S49)) (w : World) (h : annuitantlaw36_two.f  = some (r1, r2, r3, r4, r5, r6)) :
  Calls Tryz.prog 12 #[] w fun e w' => ∃ v2_ v5_ : Value, e = .returned (.tuple #[.agg #[.int .i64 r1, .int .i64 r2, v2_], .agg #[.int .i64 r4, .int .i64 r5, v5_]]) ∧ Kd.R k47 47 w' w.heap.size (fun _ => True) v2_ r3 ∧ Kd.R k49 49 w' w.heap.size (fun _ => True) v5_ r6 ∧ Below w.heap.size w w' := by
 have hu27 := Tryz.underlying27
 have hu30 := Tryz.underlying30
 have hu47 := Tryz.underlying47
 have hu49 := Tryz.underlying49
 have HB := Aside0.mk (Below.refl w.heap.size w)
 have H : (some (7, 100, (([(⟨3, 55, 1000, 200, 800⟩ : S47), (⟨4, 56, 50, 0, 50⟩ : S47)] : List (S47))), 7, 102, (([(⟨4, 2⟩ : S49)] : List (S49))))) = some (r1, r2, r3, r4, r5, r6) := h
 clear h
 obtain ⟨y103, hy103⟩ : ∃ y_ : List (S47), y_ = (([(⟨3, 55, 1000, 200, 800⟩ : S47), (⟨4, 56, 50, 0, 50⟩ : S47)] : List (S47))) := ⟨_, rfl⟩
 replace H : (some (7, 100, y103, 7, 102, (([(⟨4, 2⟩ : S49)] : List (S49))))) = some (r1, r2, r3, r4, r5, r6) := by first | (rw [hy103]; with_reducible exact H) | (have H2_ := (Option.bind_some _ _).symm.trans H; rw [hy103]; with_reducible exact H2_) | (have H2_ := (Option.bind_some _ _).symm.trans H; with_reducible exact H2_) | with_reducible exact H | (rw [hy103]; exact H) | exact H
 have Ny103 := Aside0.mk hy103
 clear hy103
 obtain ⟨y107, hy107⟩ : ∃ y_ : List (S49), y_ = (([(⟨4, 2⟩ : S49)] : List (S49))) := ⟨_, rfl⟩
 replace H : (some (7, 100, y103, 7, 102, y107)) = some (r1, r2, r3, r4, r5, r6) := by first | (rw [hy107]; with_reducible exact H) | (have H2_ := (Option.bind_some _ _).symm.trans H; rw [hy107]; with_reducible exact H2_) | (have H2_ := (Option.bind_some _ _).symm.trans H; with_reducible exact H2_) | with_reducible exact H | (rw [hy107]; exact H) | exact H
 have Ny107 := Aside0.mk hy107
 clear hy107
 simp only [Option.some.injEq, Prod.mk.injEq] at H
 obtain ⟨rfl, rfl, rfl, rfl, rfl, rfl⟩ := H
 go_enter Tryz.func12, Tryz.ntmps12
 go_wp2_with (first | ((with_reducible refine gate_dst (N := 0) rfl ?_); refine box_event ?hg (N := 0) ?hd (cs := #[.int .i64 0, .int .i64 0, .slice none 0 0]) (t := 27) ?hr ?_; (case hd => rfl); (case hg => rfl); (case hr => first | (go_simp; done) | (go_simp; rfl)); intro gb101 hg w1 hbox hb; have n0_ := Aside0.mk (below_step (by repeat (first | (with_reducible first | exact HB.out | apply below_alloc | apply pw_below_drewN | apply below_drew1) | exact HB.out)) hb); have n1_ := Aside0.mk (hbox); have n2_ := Aside0.mk ((by rw [hg]; exact (below_size (by repeat (first | (with_reducible first | exact HB.out | apply below_alloc | apply pw_below_drewN | apply below_drew1) | exact HB.out))) : w.heap.size ≤ gb101)); have n3_ := Aside0.mk ((by rw [hg]; exact (below_size (by repeat (first | (with_reducible first | exact HB.out | apply below_alloc | apply pw_below_drewN | apply below_drew1) | exact HB.out))) : w.heap.size ≤ gb101)); clear HB; have HB := n0_; have BK101 := n1_; have GW101 := n2_; have GE101 := n3_; clear n0_ n1_ n2_ n3_; clear hb hbox hg) | ((with_reducible refine gate_dst (N := 1) rfl ?_); refine box_event ?hg (N := 1) ?hd (cs := #[.int .i64 0, .int .i64 0, .slice none 0 0]) (t := 30) ?hr ?_; (case hd => rfl); (case hg => rfl); (case hr => first | (go_simp; done) | (go_simp; rfl)); intro gb102 hg w2 hbox hb; have n0_ := Aside0.mk (blk_below (g := gb101) (o := .cells #[.int .i64 0, .int .i64 0, .slice none 0 0] 27 (0, 0)) (by (with_reducible repeat (first | refine blk_drewN ?_ _ | refine blk_drew ?_ | refine blk_alloc ?_ _)); exact BK101.out) hb); have n1_ := Aside0.mk (below_step (by repeat (first | (with_reducible first | exact HB.out | apply below_alloc | apply pw_below_drewN | apply below_drew1 | refine below_set ?_ GE101.out) | exact HB.out)) hb); have n2_ := Aside0.mk (hbox); have n3_ := Aside0.mk ((by rw [hg]; exact (below_size (by repeat (first | (with_reducible first | exact HB.out | apply below_alloc | apply pw_below_drewN | apply below_drew1 | refine below_set ?_ GE101.out) | exact HB.out))) : w.heap.size ≤ gb102)); have n4_ := Aside0.mk ((by rw [hg]; exact (below_size (by repeat (first | (with_reducible first | exact HB.out | apply below_alloc | apply pw_below_drewN | apply below_drew1 | refine below_set ?_ GE101.out) | exact HB.out))) : w.heap.size ≤ gb102)); have n5_ := Aside0.mk ((by rw [hg]; exact Nat.ne_of_lt (blk_lt (g := gb101) (o := .cells #[.int .i64 0, .int .i64 0, .slice none 0 0] 27 (0, 0)) (by (with_reducible repeat (first | refine blk_drewN ?_ _ | refine blk_drew ?_ | refine blk_alloc ?_ _)); exact BK101.out)) : gb101 ≠ gb102)); have n6_ := Aside0.mk ((by rw [hg]; exact Nat.ne_of_gt (blk_lt (g := gb101) (o := .cells #[.int .i64 0, .int .i64 0, .slice none 0 0] 27 (0, 0)) (by (with_reducible repeat (first | refine blk_drewN ?_ _ | refine blk_drew ?_ | refine blk_alloc ?_ _)); exact BK101.out)) : gb102 ≠ gb101)); clear BK101; clear HB; have BK101 := n0_; have HB := n1_; have BK102 := n2_; have GW102 := n3_; have GE102 := n4_; have NB101_102 := n5_; have NB102_101 := n6_; clear n0_ n1_ n2_ n3_ n4_ n5_ n6_; clear hb hbox hg) | ((with_reducible refine gate_dst (N := 5) rfl ?_); refine Kd.R_lit k47 _ 47 ?hg (N := 5) ?hd (xs := ([(⟨3, 55, 1000, 200, 800⟩ : S47), (⟨4, 56, 50, 0, 50⟩ : S47)] : List (S47))) (inner := [.int .i64 3, .int .i64 55, .int .i64 1000, .int .i64 200, .int .i64 800, .int .i64 4, .int .i64 56, .int .i64 50, .int .i64 0, .int .i64 50]) (ok := fun _ => True) (okp := fun _ => True) ?hr ?hp (fun _ hk => hk) trivial (Below.refl _ _) (Nat.le_refl _) (by simp) ?_; (case hd => rfl); (case hg => rfl); (case hr => first | (go_simp; done) | (go_simp; rfl)); (case hp => exact (Reps.c5 (show Kd.M k47 _ _ _ (⟨3, 55, 1000, 200, 800⟩ : S47) [.int .i64 3, .int .i64 55, .int .i64 1000, .int .i64 200, .int .i64 800] from (k47_mkM _ _ _ (⟨3, 55, 1000, 200, 800⟩ : S47) )) (Reps.c5 (show Kd.M k47 _ _ _ (⟨4, 56, 50, 0, 50⟩ : S47) [.int .i64 4, .int .i64 56, .int .i64 50, .int .i64 0, .int .i64 50] from (k47_mkM _ _ _ (⟨4, 56, 50, 0, 50⟩ : S47) )) (Reps.none _ _)))); intro v104 w3 ho4 hb hg_ hnew_; clear hg_ hnew_; (first | rw [← Ny103.out] at ho4 | (simp only [Int.reduceToNat] at ho4; rw [← Ny103.out] at ho4)); have n0_ := Aside0.mk (Kd.R_lower ho4 (below_size (by repeat (first | (with_reducible first | exact HB.out | apply below_alloc | apply pw_below_drewN | apply below_drew1 | refine below_set ?_ GE101.out | refine below_set ?_ GE102.out) | exact HB.out)))); have n1_ := Aside0.mk (blk_below (g := gb101) (o := .cells #[.int .i64 0, .int .i64 0, .slice none 0 0] 27 (0, 0)) (by (with_reducible repeat (first | refine blk_drewN ?_ _ | refine blk_drew ?_ | refine blk_alloc ?_ _)); exact BK101.out) hb); have n2_ := Aside0.mk (blk_below (g := gb102) (o := .cells #[.int .i64 0, .int .i64 0, .slice none 0 0] 30 (0, 0)) (by (with_reducible repeat (first | refine blk_drewN ?_ _ | refine blk_drew ?_ | refine blk_alloc ?_ _)); exact BK102.out) hb); have n3_ := Aside0.mk (below_step (by repeat (first | (with_reducible first | exact HB.out | apply below_alloc | apply pw_below_drewN | apply below_drew1 | refine below_set ?_ GE101.out | refine below_set ?_ GE102.out) | exact HB.out)) hb); clear BK101; clear BK102; clear HB; have HO105 := n0_; have BK101 := n1_; have BK102 := n2_; have HB := n3_; clear n0_ n1_ n2_ n3_; clear hb ho4; obtain ⟨Ao5, co5, eo5⟩ := Kd.R_slice HO105.out; subst eo5) | ((with_reducible refine gate_dst (N := 2) rfl ?_); refine box_event ?hg (N := 2) ?hd (cs := #[.int .i64 0, .int .i64 0, .slice none 0 0]) (t := 27) ?hr ?_; (case hd => rfl); (case hg => rfl); (case hr => first | (go_simp; done) | (go_simp; rfl)); intro gb106 hg w6 hbox hb; have n0_ := Aside0.mk (Kd.R_below (by (with_reducible repeat (first | apply Kd.R_alloc | apply Kd.R_drewN | apply Kd.R_drew)); exact HO105.out) hb); have n1_ := Aside0.mk (blk_below (g := gb101) (o := .cells #[.int .i64 0, .int .i64 0, .slice none 0 0] 27 (0, 0)) (by (with_reducible repeat (first | refine blk_drewN ?_ _ | refine blk_drew ?_ | refine blk_alloc ?_ _)); exact BK101.out) hb); have n2_ := Aside0.mk (blk_below (g := gb102) (o := .cells #[.int .i64 0, .int .i64 0, .slice none 0 0] 30 (0, 0)) (by (with_reducible repeat (first | refine blk_drewN ?_ _ | refine blk_drew ?_ | refine blk_alloc ?_ _)); exact BK102.out) hb); have n3_ := Aside0.mk (below_step (by repeat (first | (with_reducible first | exact HB.out | apply below_alloc | apply pw_below_drewN | apply below_drew1 | refine below_set ?_ GE101.out | refine below_set ?_ GE102.out) | exact HB.out)) hb); have n4_ := Aside0.mk (hbox); have n5_ := Aside0.mk ((by rw [hg]; exact (below_size (by repeat (first | (with_reducible first | exact HB.out | apply below_alloc | apply pw_below_drewN | apply below_drew1 | refine below_set ?_ GE101.out | refine below_set ?_ GE102.out) | exact HB.out))) : w.heap.size ≤ gb106)); have n6_ := Aside0.mk ((by rw [hg]; exact (below_size (by repeat (first | (with_reducible first | exact HB.out | apply below_alloc | apply pw_below_drewN | apply below_drew1 | refine below_set ?_ GE101.out | refine below_set ?_ GE102.out) | exact HB.out))) : w.heap.size ≤ gb106)); have n7_ := Aside0.mk ((by rw [hg]; exact Nat.ne_of_lt (blk_lt (g := gb101) (o := .cells #[.int .i64 0, .int .i64 0, .slice none 0 0] 27 (0, 0)) (by (with_reducible repeat (first | refine blk_drewN ?_ _ | refine blk_drew ?_ | refine blk_alloc ?_ _)); exact BK101.out)) : gb101 ≠ gb106)); have n8_ := Aside0.mk ((by rw [hg]; exact Nat.ne_of_gt (blk_lt (g := gb101) (o := .cells #[.int .i64 0, .int .i64 0, .slice none 0 0] 27 (0, 0)) (by (with_reducible repeat (first | refine blk_drewN ?_ _ | refine blk_drew ?_ | refine blk_alloc ?_ _)); exact BK101.out)) : gb106 ≠ gb101)); have n9_ := Aside0.mk ((by rw [hg]; exact Nat.ne_of_lt (blk_lt (g := gb102) (o := .cells #[.int .i64 0, .int .i64 0, .slice none 0 0] 30 (0, 0)) (by (with_reducible repeat (first | refine blk_drewN ?_ _ | refine blk_drew ?_ | refine blk_alloc ?_ _)); exact BK102.out)) : gb102 ≠ gb106)); have n10_ := Aside0.mk ((by rw [hg]; exact Nat.ne_of_gt (blk_lt (g := gb102) (o := .cells #[.int .i64 0, .int .i64 0, .slice none 0 0] 30 (0, 0)) (by (with_reducible repeat (first | refine blk_drewN ?_ _ | refine blk_drew ?_ | refine blk_alloc ?_ _)); exact BK102.out)) : gb106 ≠ gb102)); clear HO105; clear BK101; clear BK102; clear HB; have HO105 := n0_; have BK101 := n1_; have BK102 := n2_; have HB := n3_; have BK106 := n4_; have GW106 := n5_; have GE106 := n6_; have NB101_106 := n7_; have NB106_101 := n8_; have NB102_106 := n9_; have NB106_102 := n10_; clear n0_ n1_ n2_ n3_ n4_ n5_ n6_ n7_ n8_ n9_ n10_; clear hb hbox hg; have hnb7 := NB106_101.out; have hnc7 := NB101_106.out; have hnb8 := NB106_102.out; have hnc8 := NB102_106.out; have hcz9_0 : w6.cell? ⟨gb106, 0, none⟩ = some (.int .i64 0) := (blk_cell BK106.out 0).trans rfl; have hcz9_1 : w6.cell? ⟨gb106, 1, none⟩ = some (.int .i64 0) := (blk_cell BK106.out 1).trans rfl; have hcz9_2 : w6.cell? ⟨gb106, 2, none⟩ = some (.slice none 0 0) := (blk_cell BK106.out 2).trans rfl; have hfz9_0 := blk_frozen BK106.out 0; have hfz9_1 := blk_frozen BK106.out 1; have hfz9_2 := blk_frozen BK106.out 2) | ((with_reducible refine gate_dst (N := 9) rfl ?_); refine Kd.R_lit k49 _ 49 ?hg (N := 9) ?hd (xs := ([(⟨4, 2⟩ : S49)] : List (S49))) (inner := [.int .i64 4, .int .i64 2]) (ok := fun _ => True) (okp := fun _ => True) ?hr ?hp (fun _ hk => hk) trivial (Below.refl _ _) (Nat.le_refl _) (by simp) ?_; (case hd => rfl); (case hg => rfl); (case hr => first | (go_simp; done) | (go_simp; rfl)); (case hp => exact (Reps.c2 (show Kd.M k49 _ _ _ (⟨4, 2⟩ : S49) [.int .i64 4, .int .i64 2] from (k49_mkM _ _ _ (⟨4, 2⟩ : S49) )) (Reps.none _ _))); intro v108 w10 ho11 hb hg_ hnew_; clear hg_ hnew_; (first | rw [← Ny107.out] at ho11 | (simp only [Int.reduceToNat] at ho11; rw [← Ny107.out] at ho11)); have n0_ := Aside0.mk (Kd.R_below (by (with_reducible repeat (first | apply Kd.R_alloc | apply Kd.R_drewN | apply Kd.R_drew)); exact (Kd.R_mono (Kd.R_far (p := ⟨gb106, 2, none⟩) (Kd.R_far (p := ⟨gb106, 1, none⟩) (Kd.R_far (p := ⟨gb106, 0, none⟩) (Kd.R_types HO105.out BK106.out (by decide)) (fun _ hk => hk.2) (.int .i64 7)) (fun _ hk => hk.2) (.int .i64 100)) (fun _ hk => hk.2) (.slice Ao5 y103.length co5)) (fun _ h_ => h_.1))) hb); have n1_ := Aside0.mk (Kd.R_lower ho11 (below_size (by repeat (first | (with_reducible first | exact HB.out | apply below_alloc | apply pw_below_drewN | apply below_drew1 | refine below_set ?_ GE101.out | refine below_set ?_ GE102.out | refine below_set ?_ GE106.out) | exact HB.out)))); have n2_ := Aside0.mk (blk_below (g := gb101) (o := .cells #[.int .i64 0, .int .i64 0, .slice none 0 0] 27 (0, 0)) (by (with_reducible repeat (first | refine blk_drewN ?_ _ | refine blk_drew ?_ | refine blk_alloc ?_ _)); refine blk_far ?_ NB101_106.out _; (with_reducible repeat (first | refine blk_drewN ?_ _ | refine blk_drew ?_ | refine blk_alloc ?_ _)); refine blk_far ?_ NB101_106.out _; (with_reducible repeat (first | refine blk_drewN ?_ _ | refine blk_drew ?_ | refine blk_alloc ?_ _)); refine blk_far ?_ NB101_106.out _; (with_reducible repeat (first | refine blk_drewN ?_ _ | refine blk_drew ?_ | refine blk_alloc ?_ _)); exact BK101.out) hb); have n3_ := Aside0.mk (blk_below (g := gb102) (o := .cells #[.int .i64 0, .int .i64 0, .slice none 0 0] 30 (0, 0)) (by (with_reducible repeat (first | refine blk_drewN ?_ _ | refine blk_drew ?_ | refine blk_alloc ?_ _)); refine blk_far ?_ NB102_106.out _; (with_reducible repeat (first | refine blk_drewN ?_ _ | refine blk_drew ?_ | refine blk_alloc ?_ _)); refine blk_far ?_ NB102_106.out _; (with_reducible repeat (first | refine blk_drewN ?_ _ | refine blk_drew ?_ | refine blk_alloc ?_ _)); refine blk_far ?_ NB102_106.out _; (with_reducible repeat (first | refine blk_drewN ?_ _ | refine blk_drew ?_ | refine blk_alloc ?_ _)); exact BK102.out) hb); have n4_ := Aside0.mk (blk_below (g := gb106) (o := .cells #[.int .i64 7, .int .i64 100, .slice Ao5 y103.length co5] 27 (0, 0)) (by (with_reducible repeat (first | refine blk_drewN ?_ _ | refine blk_drew ?_ | refine blk_alloc ?_ _)); refine blk_put (cs := #[.int .i64 7, .int .i64 100, .slice none 0 0]) ?_ 2 _ rfl; (with_reducible repeat (first | refine blk_drewN ?_ _ | refine blk_drew ?_ | refine blk_alloc ?_ _)); refine blk_put (cs := #[.int .i64 7, .int .i64 0, .slice none 0 0]) ?_ 1 _ rfl; (with_reducible repeat (first | refine blk_drewN ?_ _ | refine blk_drew ?_ | refine blk_alloc ?_ _)); refine blk_put (cs := #[.int .i64 0, .int .i64 0, .slice none 0 0]) ?_ 0 _ rfl; (with_reducible repeat (first | refine blk_drewN ?_ _ | refine blk_drew ?_ | refine blk_alloc ?_ _)); exact BK106.out) hb); have n5_ := Aside0.mk (below_step (by repeat (first | (with_reducible first | exact HB.out | apply below_alloc | apply pw_below_drewN | apply below_drew1 | refine below_set ?_ GE101.out | refine below_set ?_ GE102.out | refine below_set ?_ GE106.out) | exact HB.out)) hb); clear HO105; clear BK101; clear BK102; clear BK106; clear HB; have HO105 := n0_; have HO109 := n1_; have BK101 := n2_; have BK102 := n3_; have BK106 := n4_; have HB := n5_; clear n0_ n1_ n2_ n3_ n4_ n5_; clear hb ho11; obtain ⟨Ao12, co12, eo12⟩ := Kd.R_slice HO109.out; subst eo12; have hnb13 := NB101_102.out; have hnc13 := NB102_101.out; have hcz14_0 : w10.cell? ⟨gb101, 0, none⟩ = some (.int .i64 0) := (blk_cell BK101.out 0).trans rfl; have hcz14_1 : w10.cell? ⟨gb101, 1, none⟩ = some (.int .i64 0) := (blk_cell BK101.out 1).trans rfl; have hcz14_2 : w10.cell? ⟨gb101, 2, none⟩ = some (.slice none 0 0) := (blk_cell BK101.out 2).trans rfl; have hfz14_0 := blk_frozen BK101.out 0; have hfz14_1 := blk_frozen BK101.out 1; have hfz14_2 := blk_frozen BK101.out 2; have hcz15_0 : w10.cell? ⟨gb102, 0, none⟩ = some (.int .i64 0) := (blk_cell BK102.out 0).trans rfl; have hcz15_1 : w10.cell? ⟨gb102, 1, none⟩ = some (.int .i64 0) := (blk_cell BK102.out 1).trans rfl; have hcz15_2 : w10.cell? ⟨gb102, 2, none⟩ = some (.slice none 0 0) := (blk_cell BK102.out 2).trans rfl; have hfz15_0 := blk_frozen BK102.out 0; have hfz15_1 := blk_frozen BK102.out 1; have hfz15_2 := blk_frozen BK102.out 2))
 refine bodyPost_ret (results_cc rfl _ _ gb101 gb102 27 30 #[.int .i64 7, .int .i64 100, .slice Ao5 y103.length co5] #[.int .i64 7, .int .i64 102, .slice Ao12 y107.length co12] (0, 0) (0, 0) _ _ rfl (by (with_reducible repeat (first | refine blk_drewN ?_ _ | refine blk_drew ?_ | refine blk_alloc ?_ _)); refine blk_far ?_ NB101_102.out _; (with_reducible repeat (first | refine blk_drewN ?_ _ | refine blk_drew ?_ | refine blk_alloc ?_ _)); refine blk_far ?_ NB101_102.out _; (with_reducible repeat (first | refine blk_drewN ?_ _ | refine blk_drew ?_ | refine blk_alloc ?_ _)); refine blk_far ?_ NB101_102.out _; (with_reducible repeat (first | refine blk_drewN ?_ _ | refine blk_drew ?_ | refine blk_alloc ?_ _)); refine blk_put (cs := #[.int .i64 7, .int .i64 100, .slice none 0 0]) ?_ 2 _ rfl; (with_reducible repeat (first | refine blk_drewN ?_ _ | refine blk_drew ?_ | refine blk_alloc ?_ _)); refine blk_put (cs := #[.int .i64 7, .int .i64 0, .slice none 0 0]) ?_ 1 _ rfl; (with_reducible repeat (first | refine blk_drewN ?_ _ | refine blk_drew ?_ | refine blk_alloc ?_ _)); refine blk_put (cs := #[.int .i64 0, .int .i64 0, .slice none 0 0]) ?_ 0 _ rfl; (with_reducible repeat (first | refine blk_drewN ?_ _ | refine blk_drew ?_ | refine blk_alloc ?_ _)); exact BK101.out) Tryz.underlying27 rfl (by kernel_rfl) rfl (by (with_reducible repeat (first | refine blk_drewN ?_ _ | refine blk_drew ?_ | refine blk_alloc ?_ _)); refine blk_put (cs := #[.int .i64 7, .int .i64 102, .slice none 0 0]) ?_ 2 _ rfl; (with_reducible repeat (first | refine blk_drewN ?_ _ | refine blk_drew ?_ | refine blk_alloc ?_ _)); refine blk_put (cs := #[.int .i64 7, .int .i64 0, .slice none 0 0]) ?_ 1 _ rfl; (with_reducible repeat (first | refine blk_drewN ?_ _ | refine blk_drew ?_ | refine blk_alloc ?_ _)); refine blk_put (cs := #[.int .i64 0, .int .i64 0, .slice none 0 0]) ?_ 0 _ rfl; (with_reducible repeat (first | refine blk_drewN ?_ _ | refine blk_drew ?_ | refine blk_alloc ?_ _)); refine blk_far ?_ NB102_101.out _; (with_reducible repeat (first | refine blk_drewN ?_ _ | refine blk_drew ?_ | refine blk_alloc ?_ _)); refine blk_far ?_ NB102_101.out _; (with_reducible repeat (first | refine blk_drewN ?_ _ | refine blk_drew ?_ | refine blk_alloc ?_ _)); refine blk_far ?_ NB102_101.out _; (with_reducible repeat (first | refine blk_drewN ?_ _ | refine blk_drew ?_ | refine blk_alloc ?_ _)); exact BK102.out) Tryz.underlying30 rfl (by kernel_rfl)) rfl ?_
 exact ⟨_, _, by first | rfl | (simp [errW_none, errW_some] <;> rfl) | (simp [*, errW_none, errW_some] <;> rfl), by (with_reducible repeat (first | apply Kd.R_alloc | apply Kd.R_drewN | apply Kd.R_drew)); exact Kd.R_mono (Kd.R_far (p := ⟨gb102, 2, none⟩) (Kd.R_far (p := ⟨gb102, 1, none⟩) (Kd.R_far (p := ⟨gb102, 0, none⟩) (Kd.R_far (p := ⟨gb101, 2, none⟩) (Kd.R_far (p := ⟨gb101, 1, none⟩) (Kd.R_far (p := ⟨gb101, 0, none⟩) (Kd.R_types (Kd.R_types HO105.out BK101.out (by decide)) BK102.out (by decide)) (fun _ hk => hk.1.2) (.int .i64 7)) (fun _ hk => hk.1.2) (.int .i64 100)) (fun _ hk => hk.1.2) (.slice Ao5 y103.length co5)) (fun _ hk => hk.2) (.int .i64 7)) (fun _ hk => hk.2) (.int .i64 102)) (fun _ hk => hk.2) (.slice Ao12 y107.length co12)) (fun _ hk => trivial), by (with_reducible repeat (first | apply Kd.R_alloc | apply Kd.R_drewN | apply Kd.R_drew)); exact Kd.R_mono (Kd.R_far (p := ⟨gb102, 2, none⟩) (Kd.R_far (p := ⟨gb102, 1, none⟩) (Kd.R_far (p := ⟨gb102, 0, none⟩) (Kd.R_far (p := ⟨gb101, 2, none⟩) (Kd.R_far (p := ⟨gb101, 1, none⟩) (Kd.R_far (p := ⟨gb101, 0, none⟩) (Kd.R_types (Kd.R_types HO109.out BK101.out (by decide)) BK102.out (by decide)) (fun _ hk => hk.1.2) (.int .i64 7)) (fun _ hk => hk.1.2) (.int .i64 100)) (fun _ hk => hk.1.2) (.slice Ao5 y103.length co5)) (fun _ hk => hk.2) (.int .i64 7)) (fun _ hk => hk.2) (.int .i64 102)) (fun _ hk => hk.2) (.slice Ao12 y107.length co12)) (fun _ hk => trivial), by repeat (first | (with_reducible first | exact HB.out | apply below_alloc | apply pw_below_drewN | apply below_drew1 | refine below_set ?_ GE101.out | refine below_set ?_ GE102.out | refine below_set ?_ GE106.out) | exact HB.out)⟩
end Go.Proofs.YtndojpcjhkncgaaGreatDoor.Q
end
