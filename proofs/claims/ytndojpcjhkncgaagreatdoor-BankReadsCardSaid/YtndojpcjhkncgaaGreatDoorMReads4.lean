/- Part 4 of a proof: the texts HRd3, HRdA, HRdF, SBack, QFref36parse, QFref36Read, put together by a program of this repo. -/
import Derived.Test.YtndojpcjhkncgaaGreatDoorMReads3
import Derived.Test.YtndojpcjhkncgaaGreatDoorMReads1
import Derived.Test.YtndojpcjhkncgaaGreatDoorMReads2

section
namespace Go.Proofs.YtndojpcjhkncgaaGreatDoor.Q
open Go Go.RowKit Go.Proofs.YtndojpcjhkncgaaGreatDoorW.PrintWords Go.Proofs.YtndojpcjhkncgaaGreatDoorW.PrintLast Go.Proofs.YtndojpcjhkncgaaGreatDoorW.PrintMore
set_option linter.unusedVariables false
set_option linter.unusedSimpArgs false
theorem two_set (W : World) (r : Nat) (t : TypeId) (h : W.heap[r]? = some (.cells #[.int .i64 0, .int .i64 0] t (0, 0))) (ms : List Int) (hm : ms.length ≤ 2) :
    ∃ x0 x1, (setAll W ([(r, 0), (r, 1)].zip ms)).heap[r]? = some (.cells #[.int .i64 x0, .int .i64 x1] t (0, 0)) ∧ (ms.length = 2 → ms = [x0, x1]) := by
  match ms, hm with
  | [], _ => exact ⟨0, 0, h, fun e => by cases e⟩
  | [m0], _ => exact ⟨m0, 0, blk_put h 0 (.int .i64 m0) rfl, fun e => by cases e⟩
  | [m0, m1], _ => exact ⟨m0, m1, blk_put (blk_put h 0 (.int .i64 m0) rfl) 1 (.int .i64 m1) rfl, fun e => rfl⟩
  | _ :: _ :: _ :: _, h => exact absurd h (by simp)
set_option maxHeartbeats 1000000 in
set_option maxRecDepth 100000 in
theorem answer2_go (l : List UInt8) (hl : l.length ≤ 1048576) (w0 w : World) (hG0 : GG w0) (hlow : Below w0.heap.size w0 w) (bf base : Nat) (a b v : Value) (n : Nat) (xs : List Value)
    (hf : w.heap[bf]? = some (.cells #[a, b, v] 30 (0, 0))) (b1 : w0.heap.size ≤ bf) (b2 : bf < base) (b3 : base ≤ w.heap.size) (hn : n ≤ 1048576) (hown : w.ownsRow base 49 2 v n xs) :
    Calls Tryz.prog 52 #[.string (Bt l), .pointer (some ⟨bf, 0, none⟩)] w fun e w' =>
      ∃ v', e = .returned (.bool (scanF l returnW 2).isSome) ∧ (∀ ns, scanF l returnW 2 = some ns → w'.ownsRow base 49 2 v' (n + 1) (xs ++ ns.map (Value.int .i64))) ∧
        w'.heap[bf]? = some (.cells #[a, b, v'] 30 (0, 0)) ∧ (∀ k, k < base → k ≠ bf → w'.heap[k]? = w.heap[k]?) ∧ Below w0.heap.size w0 w' ∧ w.heap.size ≤ w'.heap.size := by
  have lf := blk_lt hf
  obtain ⟨i0, hi, hz0, hz1, hz2⟩ := info_parts info49
  have hr1 : ((w.alloc (.cells #[.int .i64 0, .int .i64 0] 49 (0, 0))).alloc (.cells #[.pointer (some ⟨w.heap.size, 0, none⟩), .pointer (some ⟨w.heap.size, 1, none⟩)] 90 (0, 0))).heap[w.heap.size]? = some (.cells #[.int .i64 0, .int .i64 0] 49 (0, 0)) := blk_alloc (blk_new w _) _
  have hb1 : Below w.heap.size w ((w.alloc (.cells #[.int .i64 0, .int .i64 0] 49 (0, 0))).alloc (.cells #[.pointer (some ⟨w.heap.size, 0, none⟩), .pointer (some ⟨w.heap.size, 1, none⟩)] 90 (0, 0))) := ((Below.refl _ w).alloc (Nat.le_refl _) _).alloc (by simp) _
  have hsz1 : (w.alloc (.cells #[.int .i64 0, .int .i64 0] 49 (0, 0))).heap.size = w.heap.size + 1 := by simp
  have hS : Calls Tryz.prog 49 #[.string (Bt l), .string ⟨#[114, 101, 116, 117, 114, 110]⟩, .slice (some ⟨w.heap.size + 1, 0, none⟩) 2 2] ((w.alloc (.cells #[.int .i64 0, .int .i64 0] 49 (0, 0))).alloc (.cells #[.pointer (some ⟨w.heap.size, 0, none⟩), .pointer (some ⟨w.heap.size, 1, none⟩)] 90 (0, 0))) _ :=
    scan_go l returnW hl [(w.heap.size, 0), (w.heap.size, 1)] (by show 2 ≤ 100; decide) (w.heap.size + 1) w0 _ hG0 (hlow.trans (hb1.mono hlow.size)) (by rw [← hsz1]; exact blk_new _ _) (by
      intro p hp
      simp only [List.mem_cons, List.not_mem_nil, or_false] at hp
      have : p.1 = w.heap.size ∧ p.2 < 2 := by rcases hp with rfl | rfl <;> exact ⟨rfl, by simp⟩
      obtain ⟨e1, e2⟩ := this
      rw [e1]
      exact ⟨by omega, hlow.size, _, _, hr1, e2⟩)
  have HS := Lib.hid hS
  have HO := Lib.hid hown
  have HL := Lib.hid hlow
  have HF := Lib.hid hf
  have HR1 := Lib.hid hr1
  have HB1 := Lib.hid hb1
  clear hS hown hlow hf hr1 hb1 hsz1
  go_enter Tryz.func52, Tryz.ntmps52
  go_wp2_with fail
  refine HS.out.mono ?_
  rintro e w3 ⟨ms, rfl, hm1, hm2, hb⟩
  obtain ⟨x0, x1, hx, hm3⟩ := two_set _ _ _ HR1.out ms hm1
  have hsz : ((w.alloc (.cells #[.int .i64 0, .int .i64 0] 49 (0, 0))).alloc (.cells #[.pointer (some ⟨w.heap.size, 0, none⟩), .pointer (some ⟨w.heap.size, 1, none⟩)] 90 (0, 0))).heap.size = w.heap.size + 2 := by simp
  rw [hsz] at hb
  have hr3 : w3.heap[w.heap.size]? = some (.cells #[.int .i64 x0, .int .i64 x1] 49 (0, 0)) := (hb.block _ (by omega)).trans hx
  have hz : ∀ y ∈ [(w.heap.size, 0), (w.heap.size, 1)].zip ms, y.1.1 = w.heap.size := by
    intro y hy
    have hy := (List.of_mem_zip hy).1
    simp only [List.mem_cons, List.not_mem_nil, or_false] at hy
    rcases hy with e | e <;> rw [e]
  have hk3 : Below w.heap.size w w3 := (HB1.out.trans (setAll_below _ _ _ (fun y hy => Nat.le_of_eq (hz y hy).symm))).trans (hb.mono (by omega))
  have hns : ∀ ns, scanF l returnW 2 = some ns → ns = [x0, x1] := fun ns h => by
    have e := hm2 ns h
    subst e
    exact hm3 (scanF_len _ _ _ _ h)
  have hf3 := (hk3.block bf lf).trans HF.out
  have c2 : w3.cell? ⟨bf, 2, none⟩ = some v := blk_cell hf3 2
  have r0 : w3.cell? ⟨w.heap.size, 0, none⟩ = some (.int .i64 x0) := blk_cell hr3 0
  have r1 : w3.cell? ⟨w.heap.size, 1, none⟩ = some (.int .i64 x1) := blk_cell hr3 1
  have HO3 := Lib.hid (owns_keep HO.out (fun k _ hk => hk3.block k hk))
  have HK3 := Lib.hid hk3
  have HF3 := Lib.hid hf3
  have HNS := Lib.hid hns
  have hs3 := hk3.size
  clear hb hx hm1 hm2 hm3 hsz hr3 hz hk3 hf3 hns HS HR1 HB1
  go_wp2_with (at_builtin; refine wpList_append_lies _ rfl _ _ 28 rfl base 49 i0 _ 2 16 Tryz.underlying28 hi hz0 hz1 hz2 rfl (by decide) v n xs rfl (owns_keep HO3.out (fun k _ hk => (below_alloc (Below.refl w3.heap.size w3) _).block k hk)) ⟨w3.heap.size, 0, none⟩ 1 1 [.int .i64 x0, .int .i64 x1] ?c1 rfl ?c2 ?c3 (by decide) ?c4 ?c5 ?c6 _ rfl ?_)
  case c1 => rfl
  case c2 => exact World.news_of_block (B := w3.heap.size) (cs := #[.int .i64 x0, .int .i64 x1]) (blk_new _ _)
  case c3 => intro u hu; simp at hu; rcases hu with rfl | rfl <;> rfl
  case c4 => unfold maxLen; omega
  case c5 => omega
  case c6 => simp; omega
  intro g cap w4 hown4 hgrow hat hlt
  have hb0 := below_alloc (Below.refl w3.heap.size w3) (.cells #[.int .i64 x0, .int .i64 x1] 49)
  have hk4 : ∀ k, k < base → w4.heap[k]? = w3.heap[k]? := fun k hk => (hgrow.block k (by simp; omega) (owns_ne HO3.out k hk)).trans (hb0.block k (by omega))
  have hf4 : w4.heap[bf]? = some (.cells #[a, b, v] 30 (0, 0)) := (hk4 bf b2).trans HF3.out
  have hs4 : w3.heap.size ≤ w4.heap.size := Nat.le_trans hb0.size hgrow.size
  have hl4 : Below w0.heap.size w3 w4 := ⟨hgrow.os.trans hb0.os, hgrow.tape.trans hb0.tape, hgrow.output.trans hb0.output, hs4, fun k hk => hk4 k (by omega)⟩
  have d2 : w4.cell? ⟨bf, 2, none⟩ = some v := blk_cell hf4 2
  have f2 : w4.frozen? ⟨bf, 2, none⟩ = false := blk_frozen hf4 2
  have hf5 := blk_put hf4 2 (.slice (some ⟨g, 0, none⟩) (n + 1) cap) rfl
  have own5 : (w4.setCell ⟨bf, 2, none⟩ (.slice (some ⟨g, 0, none⟩) (n + 1) cap)).ownsRow base 49 2 (.slice (some ⟨g, 0, none⟩) (n + 1) cap) (n + 1) (xs ++ [.int .i64 x0, .int .i64 x1]) :=
    owns_keep hown4 (fun k hk _ => Below.heap_setCell _ _ _ _ (by show k ≠ bf; omega))
  have q1 : ∀ k, k < base → k ≠ bf → (w4.setCell ⟨bf, 2, none⟩ (.slice (some ⟨g, 0, none⟩) (n + 1) cap)).heap[k]? = w.heap[k]? := fun k hk hne => (Below.heap_setCell _ _ _ _ hne).trans ((hk4 k hk).trans (HK3.out.block k (by omega)))
  have q2 : Below w0.heap.size w0 (w4.setCell ⟨bf, 2, none⟩ (.slice (some ⟨g, 0, none⟩) (n + 1) cap)) := ((HL.out.trans (HK3.out.mono HL.out.size)).trans hl4).setCell (p := ⟨bf, 2, none⟩) b1 _
  have hs5 : w.heap.size ≤ w4.heap.size := by omega
  have q3 : w.heap.size ≤ (w4.setCell ⟨bf, 2, none⟩ (.slice (some ⟨g, 0, none⟩) (n + 1) cap)).heap.size := by simpa [World.setCell] using hs5
  have Q := Lib.hid (And.intro (fun ns (h : scanF l returnW 2 = some ns) => show (w4.setCell ⟨bf, 2, none⟩ (.slice (some ⟨g, 0, none⟩) (n + 1) cap)).ownsRow base 49 2 (.slice (some ⟨g, 0, none⟩) (n + 1) cap) (n + 1) (xs ++ ns.map (Value.int .i64)) by rw [HNS.out ns h]; exact own5) (And.intro (show _ = some (Obj.cells #[a, b, .slice (some ⟨g, 0, none⟩) (n + 1) cap] 30 (0, 0)) from hf5) (And.intro q1 (And.intro q2 q3))))
  clear hs5 hown4 hgrow hat hlt hb0 hk4 hf4 hs4 hl4 hf5 own5 q1 q2 q3 c2 r0 r1 HO3 HK3 HF3 HNS hs3 HO HL HF hi hz0 hz1 hz2
  go_wp2_with fail
  go_ret
  exact ⟨.slice (some ⟨g, 0, none⟩) (n + 1) cap, rfl, Q.out⟩
end Go.Proofs.YtndojpcjhkncgaaGreatDoor.Q
end

section
namespace Go.Proofs.YtndojpcjhkncgaaGreatDoor.Q
open Go Go.RowKit Go.Proofs.YtndojpcjhkncgaaGreatDoorW.PrintWords Go.Proofs.YtndojpcjhkncgaaGreatDoorW.PrintLast Go.Proofs.YtndojpcjhkncgaaGreatDoorW.PrintMore
set_option linter.unusedVariables false
set_option linter.unusedSimpArgs false
def toRet (r : List Int) : S49 := ⟨r.getD 0 0, r.getD 1 0⟩
def retCells (o : S49) : List Value := [.int .i64 o.f0, .int .i64 o.f1]
def answerSt : List (List UInt8) → Option (Int × Int × Int × List S49)
  | [] => some (0, 0, 0, [])
  | l :: ls => match scanF l backL 3, scansF returnW 2 ls with | some h, some rs => some (h.getD 0 0, h.getD 1 0, h.getD 2 0, rs.map toRet) | _, _ => none
abbrev answerOk := lineOk backL 3 returnW 2
def answerR (t : List UInt8) : Int × Int × List S49 × Int :=
  if readC answerOk t = 0 then
    match answerSt (linesOf t) with
    | some (n, d, k, L) => if rightB n d L = true then (if k = (L.length : Int) then (n, d, L, 0) else (0, 0, [], 362)) else (0, 0, [], 362)
    | none => (0, 0, [], 0)
  else (0, 0, [], readC answerOk t)
theorem scansF_len (w : List UInt8) (m : Nat) : ∀ (ls : List (List UInt8)) (rs : List (List Int)), scansF w m ls = some rs → rs.length = ls.length
  | [], rs, h => by cases h; rfl
  | l :: ls, rs, h => by
    rw [scansF] at h
    cases h1 : scanF l w m with
    | none => rw [h1] at h; cases h
    | some r =>
      cases h2 : scansF w m ls with
      | none => rw [h1, h2] at h; cases h
      | some s =>
        rw [h1, h2] at h
        cases h
        rw [List.length_cons, List.length_cons, scansF_len w m ls s h2]
theorem answerSt_some (l : List UInt8) (ls : List (List UInt8)) (n d k : Int) (L : List S49) (h : answerSt (l :: ls) = some (n, d, k, L)) : ∃ a rs, scanF l backL 3 = some a ∧ scansF returnW 2 ls = some rs ∧ n = a.getD 0 0 ∧ d = a.getD 1 0 ∧ k = a.getD 2 0 ∧ L = rs.map toRet := by
  have h : (match scanF l backL 3, scansF returnW 2 ls with | some h, some rs => some (h.getD 0 0, h.getD 1 0, h.getD 2 0, rs.map toRet) | _, _ => none) = some (n, d, k, L) := h
  cases h1 : scanF l backL 3 with
  | none => rw [h1] at h; cases h
  | some a =>
    cases h2 : scansF returnW 2 ls with
    | none => rw [h1, h2] at h; cases h
    | some rs =>
      rw [h1, h2] at h
      cases h
      exact ⟨a, rs, rfl, rfl, rfl, rfl, rfl, rfl⟩
theorem answerSt_mk (l : List UInt8) (ls : List (List UInt8)) (a : List Int) (rs : List (List Int)) (h1 : scanF l backL 3 = some a) (h2 : scansF returnW 2 ls = some rs) : answerSt (l :: ls) = some (a.getD 0 0, a.getD 1 0, a.getD 2 0, rs.map toRet) := by
  show (match scanF l backL 3, scansF returnW 2 ls with | some h, some rs => some (h.getD 0 0, h.getD 1 0, h.getD 2 0, rs.map toRet) | _, _ => none) = _
  rw [h1, h2]
theorem answerSt_snoc (pre : List (List UInt8)) (hp : pre ≠ []) (x : List UInt8) (n d k : Int) (L : List S49) (r : List Int) (h : answerSt pre = some (n, d, k, L)) (hx : scanF x returnW 2 = some r) : answerSt (pre ++ [x]) = some (n, d, k, L ++ [toRet r]) := by
  cases pre with
  | nil => exact absurd rfl hp
  | cons l ls =>
    obtain ⟨a, rs, h1, h2, rfl, rfl, rfl, rfl⟩ := answerSt_some l ls n d k L h
    rw [List.cons_append, answerSt_mk l (ls ++ [x]) a (rs ++ [r]) h1 (by rw [scansF_snoc, h2, hx])]
    simp
theorem answerSt_len (pre : List (List UInt8)) (n d k : Int) (L : List S49) (h : answerSt pre = some (n, d, k, L)) : L.length ≤ pre.length := by
  cases pre with
  | nil => unfold answerSt at h; cases h; exact Nat.le_refl _
  | cons l ls =>
    obtain ⟨a, rs, h1, h2, rfl, rfl, rfl, rfl⟩ := answerSt_some l ls n d k L h
    have := scansF_len returnW 2 ls rs h2
    rw [List.length_map, List.length_cons]
    omega
def AI (w0 : World) (ba bc B1 : Nat) (pre : List (List UInt8)) (W : World) : Prop :=
  Below w0.heap.size w0 W ∧ ∃ n d k L v, answerSt pre = some (n, d, k, L) ∧ W.heap[ba]? = some (.cells #[.int .i64 n, .int .i64 d, v] 30 (0, 0)) ∧ W.heap[bc]? = some (.cells #[.int .i64 k] 3 (0, 0)) ∧ W.ownsRow B1 49 2 v L.length (L.flatMap retCells)
theorem AI_out {w0 w : World} {ba bc B1 : Nat} {pre : List (List UInt8)} {A B : World} (h0 : w0.heap.size ≤ w.heap.size) (ha : ba < w.heap.size) (hc : bc < w.heap.size) (h : AI w0 ba bc B1 pre A) (ho : OutN w.heap.size B1 A B) : AI w0 ba bc B1 pre B := by
  obtain ⟨h1, n, d, k, L, v, h2, h3, h4, h5⟩ := h
  refine ⟨h1.trans ⟨ho.os, ho.tape, ho.output, ho.size, fun k hk => ho.same k (by have := h1.size; omega) (by omega)⟩, n, d, k, L, v, h2, (ho.same _ (blk_lt h3) (.inl ha)).trans h3, (ho.same _ (blk_lt h4) (.inl hc)).trans h4, owns_keep h5 (fun k hk hl => ho.same k hl (.inr hk))⟩
theorem answer_round (w0 w : World) (hG0 : GG w0) (h0 : w0.heap.size ≤ w.heap.size) (ba bc : Nat) (hba : w0.heap.size ≤ ba) (hbc : w0.heap.size ≤ bc) (hba2 : ba < w.heap.size) (hbc2 : bc < w.heap.size) (hne : ba ≠ bc) (B1 : Nat) (pre : List (List UInt8)) (x : List UInt8) (W : World)
    (hB : w.heap.size ≤ B1) (hBW : B1 ≤ W.heap.size) (hpl : pre.length ≤ 1048576) (hxl : x.length ≤ 1048576) (h : AI w0 ba bc B1 pre W) :
    Calls Tryz.prog (if pre = [] then 51 else 52) (#[.string (Bt x)] ++ (if pre = [] then #[.pointer (some ⟨ba, 0, none⟩), .pointer (some ⟨bc, 0, none⟩)] else #[.pointer (some ⟨ba, 0, none⟩)])) W fun e W' =>
      e = .returned (.bool (answerOk pre x)) ∧ (answerOk pre x = true → AI w0 ba bc B1 (pre ++ [x]) W') ∧ (∀ k, w.heap.size ≤ k → k < B1 → W'.heap[k]? = W.heap[k]?) ∧ Below w0.heap.size w0 W' ∧ W.heap.size ≤ W'.heap.size := by
  obtain ⟨h1, n, d, k, L, v, h2, h3, h4, h5⟩ := h
  by_cases hp : pre = []
  · subst hp
    rw [if_pos rfl, if_pos rfl]
    refine (answer1_go x hxl w0 W hG0 h1 ba bc _ _ _ _ h3 h4 (by show 1 < 3; omega) (by show 0 < 1; omega) hba hbc).mono ?_
    rintro e W' ⟨ms, rfl, hm1, hm2, hb⟩
    have hok : answerOk [] x = (scanF x backL 3).isSome := by unfold answerOk lineOk; rw [if_pos rfl]
    have hz : ∀ y ∈ [(ba, 0), (ba, 1), (bc, 0)].zip ms, y.1.1 = ba ∨ y.1.1 = bc := by
      intro y hy
      have hy := (List.of_mem_zip hy).1
      simp only [List.mem_cons, List.not_mem_nil, or_false] at hy
      rcases hy with e | e | e <;> rw [e] <;> simp
    have hs : W.heap.size ≤ W'.heap.size := by have := hb.size; rwa [setAll_size] at this
    refine ⟨by rw [hok], ?_, fun k hk hk2 => (hb.block k (by omega)).trans (setAll_other _ _ _ (fun y hy => by have := hz y hy; omega)), (h1.trans (setAll_below _ _ _ (fun y hy => by have := hz y hy; omega))).trans (hb.mono (by have := h1.size; omega)), hs⟩
    intro hok2
    rw [hok] at hok2
    obtain ⟨ns, hns⟩ := Option.isSome_iff_exists.mp hok2
    have e := hm2 ns hns
    subst e
    obtain ⟨a0, a1, a2, rfl⟩ : ∃ a0 a1 a2, ms = [a0, a1, a2] := by
      match ms, scanF_len _ _ _ _ hns with
      | [a0, a1, a2], _ => exact ⟨a0, a1, a2, rfl⟩
    unfold answerSt at h2
    cases h2
    have hL := blk_lt h3
    have hL2 := blk_lt h4
    refine ⟨(h1.trans (setAll_below _ _ _ (fun y hy => by have := hz y hy; omega))).trans (hb.mono (by have := h1.size; omega)), a0, a1, a2, [], v, ?_, ?_, ?_, ?_⟩
    · exact answerSt_mk x [] [a0, a1, a2] [] hns rfl
    · refine (hb.block ba hL).trans ?_
      exact (Below.heap_setCell _ _ _ _ hne).trans (blk_put (blk_put h3 0 (.int .i64 a0) rfl) 1 (.int .i64 a1) rfl)
    · refine (hb.block bc hL2).trans ?_
      exact blk_put (((Below.heap_setCell _ _ _ _ hne.symm).trans ((Below.heap_setCell _ _ _ _ hne.symm))).trans h4) 0 (.int .i64 a2) rfl
    · exact owns_keep h5 (fun k hk hl => (hb.block k hl).trans (setAll_other _ _ _ (fun y hy => by have := hz y hy; omega)))
  · rw [if_neg hp, if_neg hp]
    have hll := answerSt_len pre n d k L h2
    refine (answer2_go x hxl w0 W hG0 h1 ba B1 _ _ v L.length (L.flatMap retCells) h3 hba (by omega) hBW (by omega) h5).mono ?_
    rintro e W' ⟨v', rfl, hv, hf, hk, hl, hs⟩
    have hok : answerOk pre x = (scanF x returnW 2).isSome := by unfold answerOk lineOk; rw [if_neg hp]
    refine ⟨by rw [hok], ?_, fun k hk1 hk2 => hk k hk2 (by omega), hl, hs⟩
    intro hok2
    rw [hok] at hok2
    obtain ⟨ns, hns⟩ := Option.isSome_iff_exists.mp hok2
    have ho := hv ns hns
    obtain ⟨a0, a1, rfl⟩ : ∃ a0 a1, ns = [a0, a1] := by
      match ns, scanF_len _ _ _ _ hns with
      | [a0, a1], _ => exact ⟨a0, a1, rfl⟩
    refine ⟨hl, n, d, k, L ++ [toRet [a0, a1]], v', answerSt_snoc pre hp x n d k L _ h2 hns, hf, (hk bc (by omega) hne.symm).trans h4, ?_⟩
    rw [List.length_append, List.flatMap_append]
    exact ho
theorem results_row_tmp {P : Program} {fn : Func} {p u : Tmp} {ty : TypeId} (h : fn.results = #[.cell p ty, .tmp u]) (tmps : Array Value) (w : World) (g : Nat) (t : TypeId) (cs : Array Value) (fr : Nat × Nat) (d : TypeDesc)
    (hp : tmps.getD p undef = .pointer (some ⟨g, 0, none⟩)) (hg : w.heap[g]? = some (.cells cs t fr))
    (hu : P.underlying ty = some d) (hd : (match d with | .struct _ | .array _ _ => true | _ => false) = true) (hi : (P.info? ty).map (·.size) = some cs.size) :
    (results fn tmps).run P w = .ok (.tuple #[.agg cs, tmps.getD u undef]) w := by
  rw [results_cell_tmp h, hp]
  simp [asAddr, run_loadVar_row w g t ty cs fr d hg hu hd hi, Result.andThen]
theorem own_ret {w : World} {base : Nat} {v : Value} : ∀ (L : List S49), w.ownsRow base 49 2 v L.length (L.flatMap retCells) → Kd.R k49 49 w base (fun _ => True) v L := by
  intro L h
  refine ⟨fun _ _ => trivial, _, h, ?_⟩
  have gen : ∀ (b a : List S49), Reps (k49.M w base (fun k => True ∧ some k ≠ v.ownBlock)) 2 a (a.flatMap retCells) → Reps (k49.M w base (fun k => True ∧ some k ≠ v.ownBlock)) 2 (a ++ b) ((a ++ b).flatMap retCells) := by
    intro b
    induction b with
    | nil => intro a h; rw [List.append_nil]; exact h
    | cons x b ih =>
      intro a h
      have h2 := ih (a ++ [x]) (by rw [List.flatMap_append]; exact Reps.snoc h (k49_mkM w base _ x) rfl)
      rwa [List.append_assoc] at h2
  exact gen L [] (Reps.none _ _)
theorem lines_len (t : List UInt8) (h : t.length ≤ 4611686018427387904) : (linesOf t).length ≤ 4611686018427387904 := by
  have h1 := flatL_le (linesOf t)
  have h2 : flatL (linesOf t) = t.take (t.length - 23) ++ [10] := by unfold flatL linesOf; rw [words_flat]
  rw [h2, List.length_append, List.length_take, List.length_singleton] at h1
  omega
set_option maxHeartbeats 2000000 in
set_option maxRecDepth 100000 in
theorem readAnswer_go (t : List UInt8) (ht : t.length ≤ 4611686018427387904) (n d : Int) (L : List S49) (err : Int) (hr : answerR t = (n, d, L, err)) (w : World) (hG : GG w) :
    Calls Tryz.prog 25 #[.string (Bt t)] w fun e w' => ∃ v, e = .returned (.tuple #[.agg #[.int .i64 n, .int .i64 d, v], .int .i64 err]) ∧ Kd.R k49 49 w' w.heap.size (fun _ => True) v L ∧ Below w.heap.size w w' := by
  obtain ⟨w1, hw1⟩ : ∃ w1, w1 = w.alloc (.cells #[.int .i64 0, .int .i64 0, .slice none 0 0] 30 (0, 0)) := ⟨_, rfl⟩
  obtain ⟨w3, hw3⟩ : ∃ w3, w3 = (w1.alloc (.cells #[.int .i64 0, .int .i64 0, .slice none 0 0] 30 (0, 0))).alloc (.cells #[.int .i64 0] 3 (0, 0)) := ⟨_, rfl⟩
  have hs1 : w1.heap.size = w.heap.size + 1 := by rw [hw1]; simp
  have hs3 : w3.heap.size = w.heap.size + 3 := by rw [hw3]; simp [hs1]
  have hb1 : Below w.heap.size w w1 := by rw [hw1]; exact (Below.refl _ w).alloc (Nat.le_refl _) _
  have hb3 : Below w1.heap.size w1 w3 := by rw [hw3]; exact ((Below.refl _ w1).alloc (Nat.le_refl _) _).alloc (by simp) _
  have hr1 : w1.heap[w.heap.size]? = some (.cells #[.int .i64 0, .int .i64 0, .slice none 0 0] 30 (0, 0)) := by rw [hw1]; exact blk_new w _
  have ha3 : w3.heap[w.heap.size + 1]? = some (.cells #[.int .i64 0, .int .i64 0, .slice none 0 0] 30 (0, 0)) := by
    rw [hw3, ← hs1]
    exact blk_alloc (blk_new w1 _) _
  have hc3 : w3.heap[w.heap.size + 2]? = some (.cells #[.int .i64 0] 3 (0, 0)) := by
    have h := blk_new (w1.alloc (.cells #[.int .i64 0, .int .i64 0, .slice none 0 0] 30 (0, 0))) (.cells #[.int .i64 0] 3 (0, 0))
    rw [World.size_alloc, hs1, ← hw3] at h
    exact h
  have hG1 : GG w1 := hG.below hb1
  have hRead : Calls Tryz.prog 47 #[.string (Bt t), .func (.func 51) #[] #[.pointer (some ⟨w.heap.size + 1, 0, none⟩), .pointer (some ⟨w.heap.size + 2, 0, none⟩)], .func (.func 52) #[] #[.pointer (some ⟨w.heap.size + 1, 0, none⟩)]] w3 fun e w' =>
      e = .returned (.int .i64 (readC answerOk t)) ∧ Below w1.heap.size w1 w' ∧ (readC answerOk t = 0 → ∃ B1, w3.heap.size ≤ B1 ∧ AI w1 (w.heap.size + 1) (w.heap.size + 2) B1 (linesOf t) w') :=
    read_go 10 t ht w1 w3 hG1 hb3 _ _ _ _ (enters_of Tryz.func51 (by kernel_rfl) rfl) (enters_of Tryz.func52 (by kernel_rfl) rfl) answerOk (AI w1 (w.heap.size + 1) (w.heap.size + 2))
      (fun B1 W hB hb => ⟨hb3.trans (hb.mono (by omega)), 0, 0, 0, [], .slice none 0 0, rfl, (hb.block _ (by omega)).trans ha3, (hb.block _ (by omega)).trans hc3, ⟨rfl, .inl ⟨rfl, rfl⟩⟩⟩)
      (fun B1 pre A B h ho => AI_out (by omega) (by omega) (by omega) h ho) (fun B1 pre W h => h.1)
      (fun B1 pre x W h1 h2 h3 h4 h5 => answer_round w1 w3 hG1 (by omega) _ _ (by omega) (by omega) (by omega) (by omega) (by omega) B1 pre x W h1 h2 h3 h4 h5)
  have HRead := Lib.hid hRead
  have HR := Lib.hid hr
  have HB1 := Lib.hid hb1
  have HR1 := Lib.hid hr1
  have HS1 := Lib.hid hs1
  have HG := Lib.hid hG
  have e3 : ((w.alloc (.cells #[.int .i64 0, .int .i64 0, .slice none 0 0] 30 (0, 0))).alloc (.cells #[.int .i64 0, .int .i64 0, .slice none 0 0] 30 (0, 0))).alloc (.cells #[.int .i64 0] 3 (0, 0)) = w3 := by rw [hw3, hw1]
  have HE3 := Lib.hid e3
  have HS3 := Lib.hid hs3
  clear hRead hr hb1 hr1 hs1 hs3 hb3 ha3 hc3 hG hG1 hw3 e3 hw1
  go_enter Tryz.func25, Tryz.ntmps25
  go_wp2_with fail
  rw [HE3.out]
  refine HRead.out.mono ?_
  rintro e w5 ⟨rfl, hb5, hst⟩
  have hl1 := HS1.out
  have hr5 : w5.heap[w.heap.size]? = some (.cells #[.int .i64 0, .int .i64 0, .slice none 0 0] 30 (0, 0)) := (hb5.block _ (by omega)).trans HR1.out
  have hlow := below_then HB1.out HB1.out.size hb5
  have HLow := Lib.hid hlow
  have HST := Lib.hid hst
  have HR5 := Lib.hid hr5
  obtain ⟨c, hc⟩ : ∃ c, c = readC answerOk t := ⟨_, rfl⟩
  rw [← hc]
  by_cases h0 : c = 0
  · subst h0
    obtain ⟨B1, hB1, _, n', d', k', L', v', g2, g3, g4, g5⟩ := hst hc.symm
    have hR := own_ret L' g5
    obtain ⟨A, cc, rfl, hle, hC⟩ := Kd.R_reads hR
    have hLl := Nat.le_trans (answerSt_len _ _ _ _ _ g2) (lines_len t ht)
    obtain ⟨kk, hkk⟩ := Right_ev n' d' L' (by omega)
    have hRight : Calls Tryz.prog 28 #[.agg #[.int .i64 n', .int .i64 d', .slice A L'.length cc]] w5 fun e w' => e = .returned (.bool (rightB n' d' L')) ∧ Below w5.heap.size w5 w' := bank_Right.calls kk n' d' A cc L' _ w5 hC hle (hkk kk (Nat.le_refl _))
    have hcase : (n, d, L, err) = if rightB n' d' L' = true then (if k' = (L'.length : Int) then (n', d', L', 0) else (0, 0, [], 362)) else (0, 0, [], 362) := by
      rw [← HR.out]
      unfold answerR
      rw [if_pos hc.symm, g2]
    have HCase := Lib.hid hcase
    have HRight := Lib.hid hRight
    have HRR := Lib.hid hR
    have HG3 := Lib.hid (And.intro g3 g4)
    have a0 : w5.cell? ⟨w.heap.size + 1, 0, none⟩ = some (.int .i64 n') := blk_cell g3 0
    have a1 : w5.cell? ⟨w.heap.size + 1, 1, none⟩ = some (.int .i64 d') := blk_cell g3 1
    have a2 : w5.cell? ⟨w.heap.size + 1, 2, none⟩ = some (.slice A L'.length cc) := blk_cell g3 2
    obtain ⟨rb, hrb⟩ : ∃ rb, rb = rightB n' d' L' := ⟨_, rfl⟩
    rw [← hrb] at HRight HCase
    have HB1' := Lib.hid (show w.heap.size ≤ B1 by have := HS3.out; omega)
    have HCc := Lib.hid hc
    clear hc hB1 hRight hcase g2 g3 g4 g5 hR hle hC hkk hLl hrb hr5 hlow hst hb5
    go_wp2_with fail
    refine HRight.out.mono ?_
    rintro e w6 ⟨rfl, hb6⟩
    have g3 := (hb6.block _ (blk_lt HG3.out.1)).trans HG3.out.1
    have g4 := (hb6.block _ (blk_lt HG3.out.2)).trans HG3.out.2
    have g5 := (hb6.block _ (blk_lt HR5.out)).trans HR5.out
    have a0 : w6.cell? ⟨w.heap.size + 1, 0, none⟩ = some (.int .i64 n') := blk_cell g3 0
    have a1 : w6.cell? ⟨w.heap.size + 1, 1, none⟩ = some (.int .i64 d') := blk_cell g3 1
    have a2 : w6.cell? ⟨w.heap.size + 1, 2, none⟩ = some (.slice A L'.length cc) := blk_cell g3 2
    have a3 : w6.cell? ⟨w.heap.size + 1 + 1, 0, none⟩ = some (.int .i64 k') := blk_cell g4 0
    have r0 : w6.cell? ⟨w.heap.size, 0, none⟩ = some (.int .i64 0) := blk_cell g5 0
    have r1 : w6.cell? ⟨w.heap.size, 1, none⟩ = some (.int .i64 0) := blk_cell g5 1
    have r2 : w6.cell? ⟨w.heap.size, 2, none⟩ = some (.slice none 0 0) := blk_cell g5 2
    have f0 : w6.frozen? ⟨w.heap.size, 0, none⟩ = false := blk_frozen g5 0
    have f1 : w6.frozen? ⟨w.heap.size, 1, none⟩ = false := blk_frozen g5 1
    have f2 : w6.frozen? ⟨w.heap.size, 2, none⟩ = false := blk_frozen g5 2
    have HLow6 := Lib.hid (below_then HLow.out HLow.out.size hb6)
    have HRR6 := Lib.hid (Kd.R_below HRR.out hb6)
    have HG5 := Lib.hid g5
    clear g3 g4 g5 hb6 HRight HG3 HRR
    cases rb with
    | false =>
      go_wp2_with fail
      obtain ⟨rfl, rfl, rfl, rfl⟩ : n = 0 ∧ d = 0 ∧ L = [] ∧ err = 362 := by simpa using HCase.out
      refine bodyPost_ret (results_row_tmp rfl _ _ w.heap.size _ #[.int .i64 0, .int .i64 0, .slice none 0 0] (0, 0) _ rfl (blk_put (blk_put (blk_put HG5.out 0 _ rfl) 1 _ rfl) 2 _ rfl) Tryz.underlying30 rfl (by kernel_rfl)) rfl ?_
      exact ⟨.slice none 0 0, rfl, Kd.R_nil _ _ _ _ _, ((HLow6.out.setCell (p := ⟨w.heap.size, 0, none⟩) (Nat.le_refl _) _).setCell (p := ⟨w.heap.size, 1, none⟩) (Nat.le_refl _) _).setCell (p := ⟨w.heap.size, 2, none⟩) (Nat.le_refl _) _⟩
    | true =>
      by_cases hk : k' = (L'.length : Int)
      · go_wp2_with fail
        have hcs := HCase.out
        rw [if_pos trivial, if_pos hk] at hcs
        obtain ⟨rfl, rfl, rfl, rfl⟩ : n = n' ∧ d = d' ∧ L = L' ∧ err = 0 := by simpa using hcs
        refine bodyPost_ret (results_row_tmp rfl _ _ w.heap.size _ #[.int .i64 n, .int .i64 d, .slice A L.length cc] (0, 0) _ rfl (blk_put (blk_put (blk_put HG5.out 0 _ rfl) 1 _ rfl) 2 _ rfl) Tryz.underlying30 rfl (by kernel_rfl)) rfl ?_
        have hq : ∀ q, q ∈ 49 :: k49.E → q ≠ 30 := by decide
        refine ⟨.slice A L.length cc, rfl, Kd.R_lower (Kd.R_set (Kd.R_set (Kd.R_set HRR6.out HG5.out hq 0 _) (blk_put HG5.out 0 _ rfl) hq 1 _) (blk_put (blk_put HG5.out 0 _ rfl) 1 _ rfl) hq 2 _) HB1'.out, ((HLow6.out.setCell (p := ⟨w.heap.size, 0, none⟩) (Nat.le_refl _) _).setCell (p := ⟨w.heap.size, 1, none⟩) (Nat.le_refl _) _).setCell (p := ⟨w.heap.size, 2, none⟩) (Nat.le_refl _) _⟩
      · have hkb : (k' != (L'.length : Int)) = true := by simpa using hk
        go_wp2_with fail
        have hcs := HCase.out
        rw [if_pos trivial, if_neg hk] at hcs
        obtain ⟨rfl, rfl, rfl, rfl⟩ : n = 0 ∧ d = 0 ∧ L = [] ∧ err = 362 := by simpa using hcs
        refine bodyPost_ret (results_row_tmp rfl _ _ w.heap.size _ #[.int .i64 0, .int .i64 0, .slice none 0 0] (0, 0) _ rfl (blk_put (blk_put (blk_put HG5.out 0 _ rfl) 1 _ rfl) 2 _ rfl) Tryz.underlying30 rfl (by kernel_rfl)) rfl ?_
        exact ⟨.slice none 0 0, rfl, Kd.R_nil _ _ _ _ _, ((HLow6.out.setCell (p := ⟨w.heap.size, 0, none⟩) (Nat.le_refl _) _).setCell (p := ⟨w.heap.size, 1, none⟩) (Nat.le_refl _) _).setCell (p := ⟨w.heap.size, 2, none⟩) (Nat.le_refl _) _⟩
  · have hcase : (n, d, L, err) = (0, 0, [], c) := by
      rw [← HR.out]
      unfold answerR
      rw [if_neg (by rw [← hc]; exact h0), ← hc]
    obtain ⟨rfl, rfl, rfl, rfl⟩ : n = 0 ∧ d = 0 ∧ L = [] ∧ err = c := by simpa using hcase
    have r0 : w5.cell? ⟨w.heap.size, 0, none⟩ = some (.int .i64 0) := blk_cell hr5 0
    have r1 : w5.cell? ⟨w.heap.size, 1, none⟩ = some (.int .i64 0) := blk_cell hr5 1
    have r2 : w5.cell? ⟨w.heap.size, 2, none⟩ = some (.slice none 0 0) := blk_cell hr5 2
    have f0 : w5.frozen? ⟨w.heap.size, 0, none⟩ = false := blk_frozen hr5 0
    have f1 : w5.frozen? ⟨w.heap.size, 1, none⟩ = false := blk_frozen hr5 1
    have f2 : w5.frozen? ⟨w.heap.size, 2, none⟩ = false := blk_frozen hr5 2
    clear hcase hc hst hlow hr5 hb5
    go_wp2_with fail
    refine bodyPost_ret (results_row_tmp rfl _ _ w.heap.size _ #[.int .i64 0, .int .i64 0, .slice none 0 0] (0, 0) _ rfl (blk_put (blk_put (blk_put HR5.out 0 _ rfl) 1 _ rfl) 2 _ rfl) Tryz.underlying30 rfl (by kernel_rfl)) rfl ?_
    exact ⟨.slice none 0 0, rfl, Kd.R_nil _ _ _ _ _, ((HLow.out.setCell (p := ⟨w.heap.size, 0, none⟩) (Nat.le_refl _) _).setCell (p := ⟨w.heap.size, 1, none⟩) (Nat.le_refl _) _).setCell (p := ⟨w.heap.size, 2, none⟩) (Nat.le_refl _) _⟩
def bank_ReadAnswer.f (k : Nat) (a0 : ByteArray) : Option (Int × Int × (List (S49)) × Int) := if a0.size ≤ 4611686018427387904 then some (answerR a0.data.toList) else none
theorem Bt_of (s : ByteArray) : Bt s.data.toList = s := by
  unfold Bt
  cases s
  simp
theorem bank_ReadAnswer.calls (k : Nat) (a0 : ByteArray) (r1 : Int) (r2 : Int) (r3 : List (S49)) (r4 : Int) (w : World) (hG : GG w) (h : bank_ReadAnswer.f k a0 = some (r1, r2, r3, r4)) :
    Calls Tryz.prog 25 #[.string a0] w fun e w' => ∃ v2_ : Value, e = .returned (.tuple #[.agg #[.int .i64 r1, .int .i64 r2, v2_], .int .i64 r4]) ∧ Kd.R k49 49 w' w.heap.size (fun _ => True) v2_ r3 ∧ Below w.heap.size w w' := by
  unfold bank_ReadAnswer.f at h
  split at h
  · rename_i hs
    have h2 := readAnswer_go a0.data.toList hs r1 r2 r3 r4 (Option.some.inj h) w hG
    rwa [Bt_of] at h2
  · cases h
end Go.Proofs.YtndojpcjhkncgaaGreatDoor.Q
end

section
namespace Go.Proofs.YtndojpcjhkncgaaGreatDoor.Q
open Go Go.RowKit Go.Proofs.YtndojpcjhkncgaaGreatDoorW.PrintWords Go.Proofs.YtndojpcjhkncgaaGreatDoorW.PrintLast Go.Proofs.YtndojpcjhkncgaaGreatDoorW.PrintMore
set_option linter.unusedVariables false
set_option linter.unusedSimpArgs false
def toOrd (r : List Int) : S47 := ⟨r.getD 0 0, r.getD 1 0, r.getD 2 0, r.getD 3 0, r.getD 4 0⟩
def ordCells (o : S47) : List Value := [.int .i64 o.f0, .int .i64 o.f1, .int .i64 o.f2, .int .i64 o.f3, .int .i64 o.f4]
def fileSt : List (List UInt8) → Option (Int × Int × Int × Int × List S47)
  | [] => some (0, 0, 0, 0, [])
  | l :: ls => match scanF l payL 4, scansF orderW 5 ls with | some h, some rs => some (h.getD 0 0, h.getD 1 0, h.getD 2 0, h.getD 3 0, rs.map toOrd) | _, _ => none
abbrev fileOk := lineOk payL 4 orderW 5
def fileR (t : List UInt8) : Int × Int × List S47 × Int :=
  if readC fileOk t = 0 then
    match fileSt (linesOf t) with
    | some (n, d, k, s, L) => if validB n d L = true then (if k = (L.length : Int) then (if s = netSum L then (n, d, L, 0) else (0, 0, [], 362)) else (0, 0, [], 362)) else (0, 0, [], 362)
    | none => (0, 0, [], 0)
  else (0, 0, [], readC fileOk t)
theorem fileSt_some (l : List UInt8) (ls : List (List UInt8)) (n d k s : Int) (L : List S47) (h : fileSt (l :: ls) = some (n, d, k, s, L)) : ∃ a rs, scanF l payL 4 = some a ∧ scansF orderW 5 ls = some rs ∧ n = a.getD 0 0 ∧ d = a.getD 1 0 ∧ k = a.getD 2 0 ∧ s = a.getD 3 0 ∧ L = rs.map toOrd := by
  have h : (match scanF l payL 4, scansF orderW 5 ls with | some h, some rs => some (h.getD 0 0, h.getD 1 0, h.getD 2 0, h.getD 3 0, rs.map toOrd) | _, _ => none) = some (n, d, k, s, L) := h
  cases h1 : scanF l payL 4 with
  | none => rw [h1] at h; cases h
  | some a =>
    cases h2 : scansF orderW 5 ls with
    | none => rw [h1, h2] at h; cases h
    | some rs =>
      rw [h1, h2] at h
      cases h
      exact ⟨a, rs, rfl, rfl, rfl, rfl, rfl, rfl, rfl⟩
theorem fileSt_mk (l : List UInt8) (ls : List (List UInt8)) (a : List Int) (rs : List (List Int)) (h1 : scanF l payL 4 = some a) (h2 : scansF orderW 5 ls = some rs) : fileSt (l :: ls) = some (a.getD 0 0, a.getD 1 0, a.getD 2 0, a.getD 3 0, rs.map toOrd) := by
  show (match scanF l payL 4, scansF orderW 5 ls with | some h, some rs => some (h.getD 0 0, h.getD 1 0, h.getD 2 0, h.getD 3 0, rs.map toOrd) | _, _ => none) = _
  rw [h1, h2]
theorem fileSt_snoc (pre : List (List UInt8)) (hp : pre ≠ []) (x : List UInt8) (n d k s : Int) (L : List S47) (r : List Int) (h : fileSt pre = some (n, d, k, s, L)) (hx : scanF x orderW 5 = some r) : fileSt (pre ++ [x]) = some (n, d, k, s, L ++ [toOrd r]) := by
  cases pre with
  | nil => exact absurd rfl hp
  | cons l ls =>
    obtain ⟨a, rs, h1, h2, rfl, rfl, rfl, rfl, rfl⟩ := fileSt_some l ls n d k s L h
    rw [List.cons_append, fileSt_mk l (ls ++ [x]) a (rs ++ [r]) h1 (by rw [scansF_snoc, h2, hx])]
    simp
theorem fileSt_len (pre : List (List UInt8)) (n d k s : Int) (L : List S47) (h : fileSt pre = some (n, d, k, s, L)) : L.length ≤ pre.length := by
  cases pre with
  | nil => unfold fileSt at h; cases h; exact Nat.le_refl _
  | cons l ls =>
    obtain ⟨a, rs, h1, h2, rfl, rfl, rfl, rfl, rfl⟩ := fileSt_some l ls n d k s L h
    have := scansF_len orderW 5 ls rs h2
    rw [List.length_map, List.length_cons]
    omega
def FI (w0 : World) (ba bc bs B1 : Nat) (pre : List (List UInt8)) (W : World) : Prop :=
  Below w0.heap.size w0 W ∧ ∃ n d k s L v, fileSt pre = some (n, d, k, s, L) ∧ W.heap[ba]? = some (.cells #[.int .i64 n, .int .i64 d, v] 27 (0, 0)) ∧ W.heap[bc]? = some (.cells #[.int .i64 k] 3 (0, 0)) ∧ W.heap[bs]? = some (.cells #[.int .i64 s] 3 (0, 0)) ∧ W.ownsRow B1 47 5 v L.length (L.flatMap ordCells)
theorem FI_out {w0 w : World} {ba bc bs B1 : Nat} {pre : List (List UInt8)} {A B : World} (h0 : w0.heap.size ≤ w.heap.size) (ha : ba < w.heap.size) (hc : bc < w.heap.size) (hs : bs < w.heap.size) (h : FI w0 ba bc bs B1 pre A) (ho : OutN w.heap.size B1 A B) : FI w0 ba bc bs B1 pre B := by
  obtain ⟨h1, n, d, k, s, L, v, h2, h3, h4, h6, h5⟩ := h
  refine ⟨h1.trans ⟨ho.os, ho.tape, ho.output, ho.size, fun k hk => ho.same k (by have := h1.size; omega) (by omega)⟩, n, d, k, s, L, v, h2, (ho.same _ (blk_lt h3) (.inl ha)).trans h3, (ho.same _ (blk_lt h4) (.inl hc)).trans h4, (ho.same _ (blk_lt h6) (.inl hs)).trans h6, owns_keep h5 (fun k hk hl => ho.same k hl (.inr hk))⟩
theorem file_round (w0 w : World) (hG0 : GG w0) (h0 : w0.heap.size ≤ w.heap.size) (ba bc bs : Nat) (hba : w0.heap.size ≤ ba) (hbc : w0.heap.size ≤ bc) (hbs : w0.heap.size ≤ bs) (hba2 : ba < w.heap.size) (hbc2 : bc < w.heap.size) (hbs2 : bs < w.heap.size) (hne : ba ≠ bc) (hne2 : ba ≠ bs) (hne3 : bc ≠ bs) (B1 : Nat) (pre : List (List UInt8)) (x : List UInt8) (W : World)
    (hB : w.heap.size ≤ B1) (hBW : B1 ≤ W.heap.size) (hpl : pre.length ≤ 1048576) (hxl : x.length ≤ 1048576) (h : FI w0 ba bc bs B1 pre W) :
    Calls Tryz.prog (if pre = [] then 48 else 50) (#[.string (Bt x)] ++ (if pre = [] then #[.pointer (some ⟨ba, 0, none⟩), .pointer (some ⟨bc, 0, none⟩), .pointer (some ⟨bs, 0, none⟩)] else #[.pointer (some ⟨ba, 0, none⟩)])) W fun e W' =>
      e = .returned (.bool (fileOk pre x)) ∧ (fileOk pre x = true → FI w0 ba bc bs B1 (pre ++ [x]) W') ∧ (∀ k, w.heap.size ≤ k → k < B1 → W'.heap[k]? = W.heap[k]?) ∧ Below w0.heap.size w0 W' ∧ W.heap.size ≤ W'.heap.size := by
  obtain ⟨h1, n, d, k, s, L, v, h2, h3, h4, h6, h5⟩ := h
  by_cases hp : pre = []
  · subst hp
    rw [if_pos rfl, if_pos rfl]
    refine (read1_go x hxl w0 W hG0 h1 ba bc bs _ _ _ _ _ _ h3 h4 h6 (by show 1 < 3; omega) (by show 0 < 1; omega) (by show 0 < 1; omega) hba hbc hbs).mono ?_
    rintro e W' ⟨ms, rfl, hm1, hm2, hb⟩
    have hok : fileOk [] x = (scanF x payL 4).isSome := by unfold fileOk lineOk; rw [if_pos rfl]
    have hz : ∀ y ∈ [(ba, 0), (ba, 1), (bc, 0), (bs, 0)].zip ms, y.1.1 = ba ∨ y.1.1 = bc ∨ y.1.1 = bs := by
      intro y hy
      have hy := (List.of_mem_zip hy).1
      simp only [List.mem_cons, List.not_mem_nil, or_false] at hy
      rcases hy with e | e | e | e <;> rw [e] <;> simp
    have hs : W.heap.size ≤ W'.heap.size := by have := hb.size; rwa [setAll_size] at this
    refine ⟨by rw [hok], ?_, fun k hk hk2 => (hb.block k (by omega)).trans (setAll_other _ _ _ (fun y hy => by have := hz y hy; omega)), (h1.trans (setAll_below _ _ _ (fun y hy => by have := hz y hy; omega))).trans (hb.mono (by have := h1.size; omega)), hs⟩
    intro hok2
    rw [hok] at hok2
    obtain ⟨ns, hns⟩ := Option.isSome_iff_exists.mp hok2
    have e := hm2 ns hns
    subst e
    obtain ⟨a0, a1, a2, a3, rfl⟩ : ∃ a0 a1 a2 a3, ms = [a0, a1, a2, a3] := by
      match ms, scanF_len _ _ _ _ hns with
      | [a0, a1, a2, a3], _ => exact ⟨a0, a1, a2, a3, rfl⟩
    unfold fileSt at h2
    cases h2
    have hL := blk_lt h3
    have hL2 := blk_lt h4
    have hL3 := blk_lt h6
    refine ⟨(h1.trans (setAll_below _ _ _ (fun y hy => by have := hz y hy; omega))).trans (hb.mono (by have := h1.size; omega)), a0, a1, a2, a3, [], v, ?_, ?_, ?_, ?_, ?_⟩
    · exact fileSt_mk x [] [a0, a1, a2, a3] [] hns rfl
    · refine (hb.block ba hL).trans ?_
      exact (Below.heap_setCell _ _ _ _ hne2).trans ((Below.heap_setCell _ _ _ _ hne).trans (blk_put (blk_put h3 0 (.int .i64 a0) rfl) 1 (.int .i64 a1) rfl))
    · refine (hb.block bc hL2).trans ?_
      exact (Below.heap_setCell _ _ _ _ hne3).trans (blk_put (((Below.heap_setCell _ _ _ _ hne.symm).trans ((Below.heap_setCell _ _ _ _ hne.symm))).trans h4) 0 (.int .i64 a2) rfl)
    · refine (hb.block bs hL3).trans ?_
      exact blk_put (((Below.heap_setCell _ _ _ _ hne3.symm).trans ((Below.heap_setCell _ _ _ _ hne2.symm).trans (Below.heap_setCell _ _ _ _ hne2.symm))).trans h6) 0 (.int .i64 a3) rfl
    · exact owns_keep h5 (fun k hk hl => (hb.block k hl).trans (setAll_other _ _ _ (fun y hy => by have := hz y hy; omega)))
  · rw [if_neg hp, if_neg hp]
    have hll := fileSt_len pre n d k s L h2
    refine (read2_go x hxl w0 W hG0 h1 ba B1 _ _ v L.length (L.flatMap ordCells) h3 hba (by omega) hBW (by omega) h5).mono ?_
    rintro e W' ⟨v', rfl, hv, hf, hk, hl, hs⟩
    have hok : fileOk pre x = (scanF x orderW 5).isSome := by unfold fileOk lineOk; rw [if_neg hp]
    refine ⟨by rw [hok], ?_, fun k hk1 hk2 => hk k hk2 (by omega), hl, hs⟩
    intro hok2
    rw [hok] at hok2
    obtain ⟨ns, hns⟩ := Option.isSome_iff_exists.mp hok2
    have ho := hv ns hns
    obtain ⟨a0, a1, a2, a3, a4, rfl⟩ : ∃ a0 a1 a2 a3 a4, ns = [a0, a1, a2, a3, a4] := by
      match ns, scanF_len _ _ _ _ hns with
      | [a0, a1, a2, a3, a4], _ => exact ⟨a0, a1, a2, a3, a4, rfl⟩
    refine ⟨hl, n, d, k, s, L ++ [toOrd [a0, a1, a2, a3, a4]], v', fileSt_snoc pre hp x n d k s L _ h2 hns, hf, (hk bc (by omega) hne.symm).trans h4, (hk bs (by omega) hne2.symm).trans h6, ?_⟩
    rw [List.length_append, List.flatMap_append]
    exact ho
theorem own_ord {w : World} {base : Nat} {v : Value} : ∀ (L : List S47), w.ownsRow base 47 5 v L.length (L.flatMap ordCells) → Kd.R k47 47 w base (fun _ => True) v L := by
  intro L h
  refine ⟨fun _ _ => trivial, _, h, ?_⟩
  have gen : ∀ (b a : List S47), Reps (k47.M w base (fun k => True ∧ some k ≠ v.ownBlock)) 5 a (a.flatMap ordCells) → Reps (k47.M w base (fun k => True ∧ some k ≠ v.ownBlock)) 5 (a ++ b) ((a ++ b).flatMap ordCells) := by
    intro b
    induction b with
    | nil => intro a h; rw [List.append_nil]; exact h
    | cons x b ih =>
      intro a h
      have h2 := ih (a ++ [x]) (by rw [List.flatMap_append]; exact Reps.snoc h (k47_mkM w base _ x) rfl)
      rwa [List.append_assoc] at h2
  exact gen L [] (Reps.none _ _)
set_option maxHeartbeats 2000000 in
set_option maxRecDepth 100000 in
theorem readFile_go (t : List UInt8) (ht : t.length ≤ 4611686018427387904) (n d : Int) (L : List S47) (err : Int) (hr : fileR t = (n, d, L, err)) (w : World) (hG : GG w) :
    Calls Tryz.prog 24 #[.string (Bt t)] w fun e w' => ∃ v, e = .returned (.tuple #[.agg #[.int .i64 n, .int .i64 d, v], .int .i64 err]) ∧ Kd.R k47 47 w' w.heap.size (fun _ => True) v L ∧ Below w.heap.size w w' := by
  obtain ⟨w1, hw1⟩ : ∃ w1, w1 = w.alloc (.cells #[.int .i64 0, .int .i64 0, .slice none 0 0] 27 (0, 0)) := ⟨_, rfl⟩
  obtain ⟨w2, hw2⟩ : ∃ w2, w2 = (w1.alloc (.cells #[.int .i64 0, .int .i64 0, .slice none 0 0] 27 (0, 0))).alloc (.cells #[.int .i64 0] 3 (0, 0)) := ⟨_, rfl⟩
  obtain ⟨w3, hw3⟩ : ∃ w3, w3 = w2.alloc (.cells #[.int .i64 0] 3 (0, 0)) := ⟨_, rfl⟩
  have hs1 : w1.heap.size = w.heap.size + 1 := by rw [hw1]; simp
  have hs2 : w2.heap.size = w.heap.size + 3 := by rw [hw2]; simp [hs1]
  have hs3 : w3.heap.size = w.heap.size + 4 := by rw [hw3]; simp [hs2]
  have hb1 : Below w.heap.size w w1 := by rw [hw1]; exact (Below.refl _ w).alloc (Nat.le_refl _) _
  have hb3 : Below w1.heap.size w1 w3 := by rw [hw3, hw2]; exact (((Below.refl _ w1).alloc (Nat.le_refl _) _).alloc (by simp) _).alloc (by simp; omega) _
  have hr1 : w1.heap[w.heap.size]? = some (.cells #[.int .i64 0, .int .i64 0, .slice none 0 0] 27 (0, 0)) := by rw [hw1]; exact blk_new w _
  have ha3 : w3.heap[w.heap.size + 1]? = some (.cells #[.int .i64 0, .int .i64 0, .slice none 0 0] 27 (0, 0)) := by
    rw [hw3, hw2, ← hs1]
    exact blk_alloc (blk_alloc (blk_new w1 _) _) _
  have hc3 : w3.heap[w.heap.size + 2]? = some (.cells #[.int .i64 0] 3 (0, 0)) := by
    have h := blk_new (w1.alloc (.cells #[.int .i64 0, .int .i64 0, .slice none 0 0] 27 (0, 0))) (.cells #[.int .i64 0] 3 (0, 0))
    rw [World.size_alloc, hs1, ← hw2] at h
    rw [hw3]
    exact blk_alloc h _
  have hd3 : w3.heap[w.heap.size + 3]? = some (.cells #[.int .i64 0] 3 (0, 0)) := by
    have h := blk_new w2 (.cells #[.int .i64 0] 3 (0, 0))
    rw [hs2, ← hw3] at h
    exact h
  have hG1 : GG w1 := hG.below hb1
  have hRead : Calls Tryz.prog 47 #[.string (Bt t), .func (.func 48) #[] #[.pointer (some ⟨w.heap.size + 1, 0, none⟩), .pointer (some ⟨w.heap.size + 2, 0, none⟩), .pointer (some ⟨w.heap.size + 3, 0, none⟩)], .func (.func 50) #[] #[.pointer (some ⟨w.heap.size + 1, 0, none⟩)]] w3 fun e w' =>
      e = .returned (.int .i64 (readC fileOk t)) ∧ Below w1.heap.size w1 w' ∧ (readC fileOk t = 0 → ∃ B1, w3.heap.size ≤ B1 ∧ FI w1 (w.heap.size + 1) (w.heap.size + 2) (w.heap.size + 3) B1 (linesOf t) w') :=
    read_go 10 t ht w1 w3 hG1 hb3 _ _ _ _ (enters_of Tryz.func48 (by kernel_rfl) rfl) (enters_of Tryz.func50 (by kernel_rfl) rfl) fileOk (FI w1 (w.heap.size + 1) (w.heap.size + 2) (w.heap.size + 3))
      (fun B1 W hB hb => ⟨hb3.trans (hb.mono (by omega)), 0, 0, 0, 0, [], .slice none 0 0, rfl, (hb.block _ (by omega)).trans ha3, (hb.block _ (by omega)).trans hc3, (hb.block _ (by omega)).trans hd3, ⟨rfl, .inl ⟨rfl, rfl⟩⟩⟩)
      (fun B1 pre A B h ho => FI_out (by omega) (by omega) (by omega) (by omega) h ho) (fun B1 pre W h => h.1)
      (fun B1 pre x W h1 h2 h3 h4 h5 => file_round w1 w3 hG1 (by omega) _ _ _ (by omega) (by omega) (by omega) (by omega) (by omega) (by omega) (by omega) (by omega) (by omega) B1 pre x W h1 h2 h3 h4 h5)
  have HRead := Lib.hid hRead
  have HR := Lib.hid hr
  have HB1 := Lib.hid hb1
  have HR1 := Lib.hid hr1
  have HS1 := Lib.hid hs1
  have HG := Lib.hid hG
  have e3 : (((w.alloc (.cells #[.int .i64 0, .int .i64 0, .slice none 0 0] 27 (0, 0))).alloc (.cells #[.int .i64 0, .int .i64 0, .slice none 0 0] 27 (0, 0))).alloc (.cells #[.int .i64 0] 3 (0, 0))).alloc (.cells #[.int .i64 0] 3 (0, 0)) = w3 := by rw [hw3, hw2, hw1]
  have HE3 := Lib.hid e3
  have HS3 := Lib.hid hs3
  clear hRead hr hb1 hr1 hs1 hs2 hs3 hb3 ha3 hc3 hd3 hG hG1 hw3 e3 hw2 hw1
  go_enter Tryz.func24, Tryz.ntmps24
  go_wp2_with fail
  rw [HE3.out]
  refine HRead.out.mono ?_
  rintro e w5 ⟨rfl, hb5, hst⟩
  have hl1 := HS1.out
  have hr5 : w5.heap[w.heap.size]? = some (.cells #[.int .i64 0, .int .i64 0, .slice none 0 0] 27 (0, 0)) := (hb5.block _ (by omega)).trans HR1.out
  have hlow := below_then HB1.out HB1.out.size hb5
  have HLow := Lib.hid hlow
  have HST := Lib.hid hst
  have HR5 := Lib.hid hr5
  obtain ⟨c, hc⟩ : ∃ c, c = readC fileOk t := ⟨_, rfl⟩
  rw [← hc]
  by_cases h0 : c = 0
  · subst h0
    obtain ⟨B1, hB1, _, n', d', k', s', L', v', g2, g3, g4, g6, g5⟩ := hst hc.symm
    have hR := own_ord L' g5
    obtain ⟨A, cc, rfl, hle, hC⟩ := Kd.R_reads hR
    have hLl := Nat.le_trans (fileSt_len _ _ _ _ _ _ g2) (lines_len t ht)
    obtain ⟨kk, hkk⟩ := Valid_ev n' d' L' (by omega)
    have hVal : ∀ W', Below w5.heap.size w5 W' → Calls Tryz.prog 22 #[.agg #[.int .i64 n', .int .i64 d', .slice A L'.length cc]] W' fun e w' => e = .returned (.bool (validB n' d' L')) ∧ Below w5.heap.size w5 w' := fun W' hb => by
      refine (bank_Valid.calls kk n' d' A cc L' _ W' (Kd.C_below hC hb) hle (hkk kk (Nat.le_refl _))).mono ?_
      rintro e w' ⟨rfl, hb2⟩
      exact ⟨rfl, below_then hb hb.size hb2⟩
    have hTot : validB n' d' L' = true → ∀ W', Below w5.heap.size w5 W' → Calls Tryz.prog 46 #[.agg #[.int .i64 n', .int .i64 d', .slice A L'.length cc]] W' fun e w' => e = .returned (.int .i64 (netSum L')) ∧ Below w5.heap.size w5 w' := fun hv W' hb => by
      obtain ⟨k2, hk2⟩ := (total_ev n' d' L' hv).1
      refine (bank_total.calls k2 n' d' A cc L' _ W' (Kd.C_below hC hb) hle (hk2 k2 (Nat.le_refl _))).mono ?_
      rintro e w' ⟨rfl, hb2⟩
      exact ⟨rfl, below_then hb hb.size hb2⟩
    have hcase : (n, d, L, err) = if validB n' d' L' = true then (if k' = (L'.length : Int) then (if s' = netSum L' then (n', d', L', 0) else (0, 0, [], 362)) else (0, 0, [], 362)) else (0, 0, [], 362) := by
      rw [← HR.out]
      unfold fileR
      rw [if_pos hc.symm, g2]
    have hSS : ∀ W', Below w5.heap.size w5 W' → (W'.cell? ⟨w.heap.size + 1, 0, none⟩ = some (.int .i64 n') ∧ W'.cell? ⟨w.heap.size + 1, 1, none⟩ = some (.int .i64 d') ∧ W'.cell? ⟨w.heap.size + 1, 2, none⟩ = some (.slice A L'.length cc) ∧ W'.cell? ⟨w.heap.size + 1 + 1, 0, none⟩ = some (.int .i64 k') ∧ W'.cell? ⟨w.heap.size + 1 + 1 + 1, 0, none⟩ = some (.int .i64 s')) := fun W' hb => by
      have q3 := (hb.block _ (blk_lt g3)).trans g3
      have q4 := (hb.block _ (blk_lt g4)).trans g4
      have q6 := (hb.block _ (blk_lt g6)).trans g6
      exact ⟨blk_cell q3 0, blk_cell q3 1, blk_cell q3 2, blk_cell q4 0, blk_cell q6 0⟩
    have HSS := Lib.hid hSS
    have HCase := Lib.hid hcase
    have HVal := Lib.hid hVal
    have HTot := Lib.hid hTot
    have HRR := Lib.hid hR
    have HB1' := Lib.hid (show w.heap.size ≤ B1 by have := HS3.out; omega)
    have HCc := Lib.hid hc
    have HK1 := Lib.hid (below_drew (Below.refl w5.heap.size w5))
    obtain ⟨rb, hrb⟩ : ∃ rb, rb = validB n' d' L' := ⟨_, rfl⟩
    rw [← hrb] at HVal HTot HCase
    clear hc hB1 hVal hTot hcase hSS g2 g3 g4 g5 g6 hR hle hC hkk hLl hrb hr5 hlow hst hb5
    cases rb with
    | false =>
      go_wp2_with fail
      refine start_ (n := 17) (S := fun w' => w'.cell? ⟨w.heap.size + 1, 0, none⟩ = some (.int .i64 n') ∧ w'.cell? ⟨w.heap.size + 1, 1, none⟩ = some (.int .i64 d') ∧ w'.cell? ⟨w.heap.size + 1, 2, none⟩ = some (.slice A L'.length cc) ∧ w'.cell? ⟨w.heap.size + 1 + 1, 0, none⟩ = some (.int .i64 k') ∧ w'.cell? ⟨w.heap.size + 1 + 1 + 1, 0, none⟩ = some (.int .i64 s')) (ds := []) #[false, false, false, false, false, false, false, false, false, false, false, false, false, false, false, false, false] (by kernel_rfl) rfl rfl (HSS.out _ HK1.out) (fun hHeld => ?_)
      refine take_ (i := 0) (N := some 18) (v := ?_) (a' := ?_) #[true, false, false, false, false, false, false, false, false, false, false, false, false, false, false, false, false] rfl rfl (by kernel_rfl) (fun _ _ _ h => h) (Or.inl ⟨by rfl, ?_⟩) hHeld ?_ ?_
      rotate_left
      ·
       rintro w' ⟨s0, s1, s2, s3, s4⟩
       go_simp
       with_reducible rfl
      rotate_left
      ·
       simp only [Act.put, List.setIfInBounds_toArray, List.set_cons_zero, List.set_cons_succ]
       rfl
      refine one_ (i := 1) (N := some 19) #[true, true, false, false, false, false, false, false, false, false, false, false, false, false, false, false, false] rfl rfl (by kernel_rfl) (by decide) (fun K hK => ?_)
      refine goes_ Tryz.func22 (by kernel_rfl) rfl #[.agg #[.int .i64 n', .int .i64 d', .slice A L'.length cc]] (by rfl) rfl rfl (by (try simp only [List.map_toArray, List.map_cons, List.map_nil]); first | done | rfl) ?_
      refine (HVal.out _ HK1.out).mono ?_
      rintro e w2 ⟨rfl, hb⟩
      refine ⟨_, rfl, ?_⟩
      have HK2 := Lib.hid hb
      clear hb
      refine hK.out _ _ (HSS.out _ HK2.out) (fun hHeld => ?_)
      clear hK K
      refine norm_ (a' := ?_) ?_ ?_
      rotate_left
      ·
       show Act.put _ (some 19) _ = _
       simp only [Act.put, List.setIfInBounds_toArray, List.set_cons_zero, List.set_cons_succ]
       rfl
      refine pure_ (i := 2) (N := some 20) (v := ?_) (a' := ?_) #[true, true, true, false, false, false, false, false, false, false, false, false, false, false, false, false, false] rfl rfl (by kernel_rfl) (fun _ _ _ h => h) (Or.inl ⟨by rfl, ?_⟩) ?_ ?_
      rotate_left
      ·
       intro w'
       go_simp
       with_reducible rfl
      rotate_left
      ·
       simp only [Act.put, List.setIfInBounds_toArray, List.set_cons_zero, List.set_cons_succ]
       rfl
      refine pure_ (i := 3) (N := some 21) (v := ?_) (a' := ?_) #[true, true, true, true, false, false, false, false, false, false, false, false, false, false, false, false, false] rfl rfl (by kernel_rfl) (fun _ _ _ h => h) (Or.inl ⟨by rfl, ?_⟩) ?_ ?_
      rotate_left
      ·
       intro w'
       go_simp
       with_reducible rfl
      rotate_left
      ·
       simp only [Act.put, List.setIfInBounds_toArray, List.set_cons_zero, List.set_cons_succ]
       rfl
      refine pure_ (i := 4) (N := some 22) (v := undef) (a' := ?_) #[true, true, true, true, true, false, false, false, false, false, false, false, false, false, false, false, false] rfl rfl (by kernel_rfl) (fun _ _ _ h => h) (Or.inr ⟨by rfl, rfl⟩) ?_ ?_
      rotate_left
      ·
       simp only [Act.put, List.setIfInBounds_toArray, List.set_cons_zero, List.set_cons_succ]
       rfl
      refine pure_ (i := 5) (N := some 23) (v := undef) (a' := ?_) #[true, true, true, true, true, true, false, false, false, false, false, false, false, false, false, false, false] rfl rfl (by kernel_rfl) (fun _ _ _ h => h) (Or.inr ⟨by rfl, rfl⟩) ?_ ?_
      rotate_left
      ·
       simp only [Act.put, List.setIfInBounds_toArray, List.set_cons_zero, List.set_cons_succ]
       rfl
      refine pure_ (i := 6) (N := some 24) (v := undef) (a' := ?_) #[true, true, true, true, true, true, true, false, false, false, false, false, false, false, false, false, false] rfl rfl (by kernel_rfl) (fun _ _ _ h => h) (Or.inr ⟨by rfl, rfl⟩) ?_ ?_
      rotate_left
      ·
       simp only [Act.put, List.setIfInBounds_toArray, List.set_cons_zero, List.set_cons_succ]
       rfl
      refine pure_ (i := 7) (N := some 25) (v := undef) (a' := ?_) #[true, true, true, true, true, true, true, true, false, false, false, false, false, false, false, false, false] rfl rfl (by kernel_rfl) (fun _ _ _ h => h) (Or.inr ⟨by rfl, rfl⟩) ?_ ?_
      rotate_left
      ·
       simp only [Act.put, List.setIfInBounds_toArray, List.set_cons_zero, List.set_cons_succ]
       rfl
      refine pure_ (i := 8) (N := some 26) (v := undef) (a' := ?_) #[true, true, true, true, true, true, true, true, true, false, false, false, false, false, false, false, false] rfl rfl (by kernel_rfl) (fun _ _ _ h => h) (Or.inr ⟨by rfl, rfl⟩) ?_ ?_
      rotate_left
      ·
       simp only [Act.put, List.setIfInBounds_toArray, List.set_cons_zero, List.set_cons_succ]
       rfl
      refine pure_ (i := 9) (N := some 27) (v := ?_) (a' := ?_) #[true, true, true, true, true, true, true, true, true, true, false, false, false, false, false, false, false] rfl rfl (by kernel_rfl) (fun _ _ _ h => h) (Or.inl ⟨by rfl, ?_⟩) ?_ ?_
      rotate_left
      ·
       intro w'
       go_simp
       with_reducible rfl
      rotate_left
      ·
       simp only [Act.put, List.setIfInBounds_toArray, List.set_cons_zero, List.set_cons_succ]
       rfl
      refine pure_ (i := 10) (N := some 28) (v := ?_) (a' := ?_) #[true, true, true, true, true, true, true, true, true, true, true, false, false, false, false, false, false] rfl rfl (by kernel_rfl) (fun _ _ _ h => h) (Or.inl ⟨by rfl, ?_⟩) ?_ ?_
      rotate_left
      ·
       intro w'
       go_simp
       with_reducible rfl
      rotate_left
      ·
       simp only [Act.put, List.setIfInBounds_toArray, List.set_cons_zero, List.set_cons_succ]
       rfl
      refine pure_ (i := 11) (N := some 29) (v := undef) (a' := ?_) #[true, true, true, true, true, true, true, true, true, true, true, true, false, false, false, false, false] rfl rfl (by kernel_rfl) (fun _ _ _ h => h) (Or.inr ⟨by rfl, rfl⟩) ?_ ?_
      rotate_left
      ·
       simp only [Act.put, List.setIfInBounds_toArray, List.set_cons_zero, List.set_cons_succ]
       rfl
      refine pure_ (i := 12) (N := some 30) (v := undef) (a' := ?_) #[true, true, true, true, true, true, true, true, true, true, true, true, true, false, false, false, false] rfl rfl (by kernel_rfl) (fun _ _ _ h => h) (Or.inr ⟨by rfl, rfl⟩) ?_ ?_
      rotate_left
      ·
       simp only [Act.put, List.setIfInBounds_toArray, List.set_cons_zero, List.set_cons_succ]
       rfl
      refine pure_ (i := 13) (N := some 31) (v := undef) (a' := ?_) #[true, true, true, true, true, true, true, true, true, true, true, true, true, true, false, false, false] rfl rfl (by kernel_rfl) (fun _ _ _ h => h) (Or.inr ⟨by rfl, rfl⟩) ?_ ?_
      rotate_left
      ·
       simp only [Act.put, List.setIfInBounds_toArray, List.set_cons_zero, List.set_cons_succ]
       rfl
      refine pure_ (i := 14) (N := some 32) (v := undef) (a' := ?_) #[true, true, true, true, true, true, true, true, true, true, true, true, true, true, true, false, false] rfl rfl (by kernel_rfl) (fun _ _ _ h => h) (Or.inr ⟨by rfl, rfl⟩) ?_ ?_
      rotate_left
      ·
       simp only [Act.put, List.setIfInBounds_toArray, List.set_cons_zero, List.set_cons_succ]
       rfl
      refine pure_ (i := 15) (N := some 33) (v := ?_) (a' := ?_) #[true, true, true, true, true, true, true, true, true, true, true, true, true, true, true, true, false] rfl rfl (by kernel_rfl) (fun _ _ _ h => h) (Or.inl ⟨by rfl, ?_⟩) ?_ ?_
      rotate_left
      ·
       intro w'
       go_simp
       with_reducible rfl
      rotate_left
      ·
       simp only [Act.put, List.setIfInBounds_toArray, List.set_cons_zero, List.set_cons_succ]
       rfl
      refine pure_ (i := 16) (N := some 17) (v := ?_) (a' := ?_) #[true, true, true, true, true, true, true, true, true, true, true, true, true, true, true, true, true] rfl rfl (by kernel_rfl) (fun _ _ _ h => h) (Or.inl ⟨by rfl, ?_⟩) ?_ ?_
      rotate_left
      ·
       intro w'
       go_simp
       with_reducible rfl
      rotate_left
      ·
       simp only [Act.put, List.setIfInBounds_toArray, List.set_cons_zero, List.set_cons_succ]
       rfl
      refine done_ (by kernel_rfl) ?_
      have g5 := (HK2.out.block _ (blk_lt HR5.out)).trans HR5.out
      have r0 : w2.cell? ⟨w.heap.size, 0, none⟩ = some (.int .i64 0) := blk_cell g5 0
      have r1 : w2.cell? ⟨w.heap.size, 1, none⟩ = some (.int .i64 0) := blk_cell g5 1
      have r2 : w2.cell? ⟨w.heap.size, 2, none⟩ = some (.slice none 0 0) := blk_cell g5 2
      have f0 : w2.frozen? ⟨w.heap.size, 0, none⟩ = false := blk_frozen g5 0
      have f1 : w2.frozen? ⟨w.heap.size, 1, none⟩ = false := blk_frozen g5 1
      have f2 : w2.frozen? ⟨w.heap.size, 2, none⟩ = false := blk_frozen g5 2
      obtain ⟨a0, a1, a2, a3, a4⟩ := HSS.out _ HK2.out
      have HLow6 := Lib.hid (below_then HLow.out HLow.out.size HK2.out)
      have HRR6 := Lib.hid (Kd.R_below HRR.out HK2.out)
      have HG5 := Lib.hid g5
      clear g5 hHeld
      go_wp2_with fail
      have hcs := HCase.out
      obtain ⟨rfl, rfl, rfl, rfl⟩ : n = 0 ∧ d = 0 ∧ L = [] ∧ err = 362 := by simpa using hcs
      refine bodyPost_ret (results_row_tmp rfl _ _ w.heap.size _ #[.int .i64 0, .int .i64 0, .slice none 0 0] (0, 0) _ rfl (blk_put (blk_put (blk_put HG5.out 0 _ rfl) 1 _ rfl) 2 _ rfl) Tryz.underlying27 rfl (by kernel_rfl)) rfl ?_
      exact ⟨.slice none 0 0, rfl, Kd.R_nil _ _ _ _ _, ((HLow6.out.setCell (p := ⟨w.heap.size, 0, none⟩) (Nat.le_refl _) _).setCell (p := ⟨w.heap.size, 1, none⟩) (Nat.le_refl _) _).setCell (p := ⟨w.heap.size, 2, none⟩) (Nat.le_refl _) _⟩
    | true =>
      by_cases hk : k' = (L'.length : Int)
      · subst hk
        by_cases hs : s' = netSum L'
        · subst hs
          go_wp2_with fail
          refine start_ (n := 17) (S := fun w' => w'.cell? ⟨w.heap.size + 1, 0, none⟩ = some (.int .i64 n') ∧ w'.cell? ⟨w.heap.size + 1, 1, none⟩ = some (.int .i64 d') ∧ w'.cell? ⟨w.heap.size + 1, 2, none⟩ = some (.slice A L'.length cc) ∧ w'.cell? ⟨w.heap.size + 1 + 1, 0, none⟩ = some (.int .i64 L'.length) ∧ w'.cell? ⟨w.heap.size + 1 + 1 + 1, 0, none⟩ = some (.int .i64 (netSum L'))) (ds := []) #[false, false, false, false, false, false, false, false, false, false, false, false, false, false, false, false, false] (by kernel_rfl) rfl rfl (HSS.out _ HK1.out) (fun hHeld => ?_)
          refine take_ (i := 0) (N := some 18) (v := ?_) (a' := ?_) #[true, false, false, false, false, false, false, false, false, false, false, false, false, false, false, false, false] rfl rfl (by kernel_rfl) (fun _ _ _ h => h) (Or.inl ⟨by rfl, ?_⟩) hHeld ?_ ?_
          rotate_left
          ·
           rintro w' ⟨s0, s1, s2, s3, s4⟩
           go_simp
           with_reducible rfl
          rotate_left
          ·
           simp only [Act.put, List.setIfInBounds_toArray, List.set_cons_zero, List.set_cons_succ]
           rfl
          refine one_ (i := 1) (N := some 19) #[true, true, false, false, false, false, false, false, false, false, false, false, false, false, false, false, false] rfl rfl (by kernel_rfl) (by decide) (fun K hK => ?_)
          refine goes_ Tryz.func22 (by kernel_rfl) rfl #[.agg #[.int .i64 n', .int .i64 d', .slice A L'.length cc]] (by rfl) rfl rfl (by (try simp only [List.map_toArray, List.map_cons, List.map_nil]); first | done | rfl) ?_
          refine (HVal.out _ HK1.out).mono ?_
          rintro e w2 ⟨rfl, hb⟩
          refine ⟨_, rfl, ?_⟩
          have HK2 := Lib.hid hb
          clear hb
          refine hK.out _ _ (HSS.out _ HK2.out) (fun hHeld => ?_)
          clear hK K
          refine norm_ (a' := ?_) ?_ ?_
          rotate_left
          ·
           show Act.put _ (some 19) _ = _
           simp only [Act.put, List.setIfInBounds_toArray, List.set_cons_zero, List.set_cons_succ]
           rfl
          refine pure_ (i := 2) (N := some 20) (v := ?_) (a' := ?_) #[true, true, true, false, false, false, false, false, false, false, false, false, false, false, false, false, false] rfl rfl (by kernel_rfl) (fun _ _ _ h => h) (Or.inl ⟨by rfl, ?_⟩) ?_ ?_
          rotate_left
          ·
           intro w'
           go_simp
           with_reducible rfl
          rotate_left
          ·
           simp only [Act.put, List.setIfInBounds_toArray, List.set_cons_zero, List.set_cons_succ]
           rfl
          refine pure_ (i := 3) (N := some 21) (v := ?_) (a' := ?_) #[true, true, true, true, false, false, false, false, false, false, false, false, false, false, false, false, false] rfl rfl (by kernel_rfl) (fun _ _ _ h => h) (Or.inl ⟨by rfl, ?_⟩) ?_ ?_
          rotate_left
          ·
           intro w'
           go_simp
           with_reducible rfl
          rotate_left
          ·
           simp only [Act.put, List.setIfInBounds_toArray, List.set_cons_zero, List.set_cons_succ]
           rfl
          refine take_ (i := 4) (N := some 22) (v := ?_) (a' := ?_) #[true, true, true, true, true, false, false, false, false, false, false, false, false, false, false, false, false] rfl rfl (by kernel_rfl) (fun _ _ _ h => h) (Or.inl ⟨by rfl, ?_⟩) hHeld ?_ ?_
          rotate_left
          ·
           rintro w' ⟨s0, s1, s2, s3, s4⟩
           go_simp
           with_reducible rfl
          rotate_left
          ·
           simp only [Act.put, List.setIfInBounds_toArray, List.set_cons_zero, List.set_cons_succ]
           rfl
          refine pure_ (i := 5) (N := some 23) (v := ?_) (a' := ?_) #[true, true, true, true, true, true, false, false, false, false, false, false, false, false, false, false, false] rfl rfl (by kernel_rfl) (fun _ _ _ h => h) (Or.inl ⟨by rfl, ?_⟩) ?_ ?_
          rotate_left
          ·
           intro w'
           go_simp
           with_reducible rfl
          rotate_left
          ·
           simp only [Act.put, List.setIfInBounds_toArray, List.set_cons_zero, List.set_cons_succ]
           rfl
          refine take_ (i := 6) (N := some 24) (v := ?_) (a' := ?_) #[true, true, true, true, true, true, true, false, false, false, false, false, false, false, false, false, false] rfl rfl (by kernel_rfl) (fun _ _ _ h => h) (Or.inl ⟨by rfl, ?_⟩) hHeld ?_ ?_
          rotate_left
          ·
           rintro w' ⟨s0, s1, s2, s3, s4⟩
           go_simp
           with_reducible rfl
          rotate_left
          ·
           simp only [Act.put, List.setIfInBounds_toArray, List.set_cons_zero, List.set_cons_succ]
           rfl
          refine pure_ (i := 7) (N := some 25) (v := ?_) (a' := ?_) #[true, true, true, true, true, true, true, true, false, false, false, false, false, false, false, false, false] rfl rfl (by kernel_rfl) (fun _ _ _ h => h) (Or.inl ⟨by rfl, ?_⟩) ?_ ?_
          rotate_left
          ·
           intro w'
           go_simp
           with_reducible rfl
          rotate_left
          ·
           simp only [Act.put, List.setIfInBounds_toArray, List.set_cons_zero, List.set_cons_succ]
           rfl
          refine pure_ (i := 8) (N := some 26) (v := ?_) (a' := ?_) #[true, true, true, true, true, true, true, true, true, false, false, false, false, false, false, false, false] rfl rfl (by kernel_rfl) (fun _ _ _ h => h) (Or.inl ⟨by rfl, ?_⟩) ?_ ?_
          rotate_left
          ·
           intro w'
           go_simp
           with_reducible rfl
          rotate_left
          ·
           simp only [Act.put, List.setIfInBounds_toArray, List.set_cons_zero, List.set_cons_succ]
           rfl
          refine pure_ (i := 9) (N := some 27) (v := ?_) (a' := ?_) #[true, true, true, true, true, true, true, true, true, true, false, false, false, false, false, false, false] rfl rfl (by kernel_rfl) (fun _ _ _ h => h) (Or.inl ⟨by rfl, ?_⟩) ?_ ?_
          rotate_left
          ·
           intro w'
           go_simp
           with_reducible rfl
          rotate_left
          ·
           simp only [Act.put, List.setIfInBounds_toArray, List.set_cons_zero, List.set_cons_succ]
           rfl
          refine pure_ (i := 10) (N := some 28) (v := ?_) (a' := ?_) #[true, true, true, true, true, true, true, true, true, true, true, false, false, false, false, false, false] rfl rfl (by kernel_rfl) (fun _ _ _ h => h) (Or.inl ⟨by rfl, ?_⟩) ?_ ?_
          rotate_left
          ·
           intro w'
           go_simp
           with_reducible rfl
          rotate_left
          ·
           simp only [Act.put, List.setIfInBounds_toArray, List.set_cons_zero, List.set_cons_succ]
           rfl
          refine take_ (i := 11) (N := some 29) (v := ?_) (a' := ?_) #[true, true, true, true, true, true, true, true, true, true, true, true, false, false, false, false, false] rfl rfl (by kernel_rfl) (fun _ _ _ h => h) (Or.inl ⟨by rfl, ?_⟩) hHeld ?_ ?_
          rotate_left
          ·
           rintro w' ⟨s0, s1, s2, s3, s4⟩
           go_simp
           with_reducible rfl
          rotate_left
          ·
           simp only [Act.put, List.setIfInBounds_toArray, List.set_cons_zero, List.set_cons_succ]
           rfl
          refine take_ (i := 12) (N := some 30) (v := ?_) (a' := ?_) #[true, true, true, true, true, true, true, true, true, true, true, true, true, false, false, false, false] rfl rfl (by kernel_rfl) (fun _ _ _ h => h) (Or.inl ⟨by rfl, ?_⟩) hHeld ?_ ?_
          rotate_left
          ·
           rintro w' ⟨s0, s1, s2, s3, s4⟩
           go_simp
           with_reducible rfl
          rotate_left
          ·
           simp only [Act.put, List.setIfInBounds_toArray, List.set_cons_zero, List.set_cons_succ]
           rfl
          refine one_ (i := 13) (N := some 31) #[true, true, true, true, true, true, true, true, true, true, true, true, true, true, false, false, false] rfl rfl (by kernel_rfl) (by decide) (fun K hK => ?_)
          refine goes_ Tryz.func46 (by kernel_rfl) rfl #[.agg #[.int .i64 n', .int .i64 d', .slice A L'.length cc]] (by rfl) rfl rfl (by (try simp only [List.map_toArray, List.map_cons, List.map_nil]); first | done | rfl) ?_
          refine (HTot.out trivial _ HK2.out).mono ?_
          rintro e w3 ⟨rfl, hb⟩
          refine ⟨_, rfl, ?_⟩
          have HK3 := Lib.hid hb
          clear hb
          refine hK.out _ _ (HSS.out _ HK3.out) (fun hHeld => ?_)
          clear hK K
          refine norm_ (a' := ?_) ?_ ?_
          rotate_left
          ·
           show Act.put _ (some 31) _ = _
           simp only [Act.put, List.setIfInBounds_toArray, List.set_cons_zero, List.set_cons_succ]
           rfl
          refine pure_ (i := 14) (N := some 32) (v := ?_) (a' := ?_) #[true, true, true, true, true, true, true, true, true, true, true, true, true, true, true, false, false] rfl rfl (by kernel_rfl) (fun _ _ _ h => h) (Or.inl ⟨by rfl, ?_⟩) ?_ ?_
          rotate_left
          ·
           intro w'
           go_simp
           with_reducible rfl
          rotate_left
          ·
           simp only [Act.put, List.setIfInBounds_toArray, List.set_cons_zero, List.set_cons_succ]
           rfl
          refine pure_ (i := 15) (N := some 33) (v := ?_) (a' := ?_) #[true, true, true, true, true, true, true, true, true, true, true, true, true, true, true, true, false] rfl rfl (by kernel_rfl) (fun _ _ _ h => h) (Or.inl ⟨by rfl, ?_⟩) ?_ ?_
          rotate_left
          ·
           intro w'
           go_simp
           with_reducible rfl
          rotate_left
          ·
           simp only [Act.put, List.setIfInBounds_toArray, List.set_cons_zero, List.set_cons_succ]
           rfl
          refine pure_ (i := 16) (N := some 17) (v := ?_) (a' := ?_) #[true, true, true, true, true, true, true, true, true, true, true, true, true, true, true, true, true] rfl rfl (by kernel_rfl) (fun _ _ _ h => h) (Or.inl ⟨by rfl, ?_⟩) ?_ ?_
          rotate_left
          ·
           intro w'
           go_simp
           with_reducible rfl
          rotate_left
          ·
           simp only [Act.put, List.setIfInBounds_toArray, List.set_cons_zero, List.set_cons_succ]
           rfl
          refine done_ (by kernel_rfl) ?_
          have g5 := (HK3.out.block _ (blk_lt HR5.out)).trans HR5.out
          have r0 : w3.cell? ⟨w.heap.size, 0, none⟩ = some (.int .i64 0) := blk_cell g5 0
          have r1 : w3.cell? ⟨w.heap.size, 1, none⟩ = some (.int .i64 0) := blk_cell g5 1
          have r2 : w3.cell? ⟨w.heap.size, 2, none⟩ = some (.slice none 0 0) := blk_cell g5 2
          have f0 : w3.frozen? ⟨w.heap.size, 0, none⟩ = false := blk_frozen g5 0
          have f1 : w3.frozen? ⟨w.heap.size, 1, none⟩ = false := blk_frozen g5 1
          have f2 : w3.frozen? ⟨w.heap.size, 2, none⟩ = false := blk_frozen g5 2
          obtain ⟨a0, a1, a2, a3, a4⟩ := HSS.out _ HK3.out
          have HLow6 := Lib.hid (below_then HLow.out HLow.out.size HK3.out)
          have HRR6 := Lib.hid (Kd.R_below HRR.out HK3.out)
          have HG5 := Lib.hid g5
          clear g5 hHeld
          go_wp2_with fail
          have hcs := HCase.out
          simp only [if_true] at hcs
          obtain ⟨rfl, rfl, rfl, rfl⟩ : n = n' ∧ d = d' ∧ L = L' ∧ err = 0 := by simpa using hcs
          refine bodyPost_ret (results_row_tmp rfl _ _ w.heap.size _ #[.int .i64 n, .int .i64 d, .slice A L.length cc] (0, 0) _ rfl (blk_put (blk_put (blk_put HG5.out 0 _ rfl) 1 _ rfl) 2 _ rfl) Tryz.underlying27 rfl (by kernel_rfl)) rfl ?_
          have hq : ∀ q, q ∈ 47 :: k47.E → q ≠ 27 := by decide
          refine ⟨.slice A L.length cc, rfl, Kd.R_lower (Kd.R_set (Kd.R_set (Kd.R_set HRR6.out HG5.out hq 0 _) (blk_put HG5.out 0 _ rfl) hq 1 _) (blk_put (blk_put HG5.out 0 _ rfl) 1 _ rfl) hq 2 _) HB1'.out, ((HLow6.out.setCell (p := ⟨w.heap.size, 0, none⟩) (Nat.le_refl _) _).setCell (p := ⟨w.heap.size, 1, none⟩) (Nat.le_refl _) _).setCell (p := ⟨w.heap.size, 2, none⟩) (Nat.le_refl _) _⟩
        · have hsb : (s' != netSum L') = true := by simpa using hs
          go_wp2_with fail
          refine start_ (n := 17) (S := fun w' => w'.cell? ⟨w.heap.size + 1, 0, none⟩ = some (.int .i64 n') ∧ w'.cell? ⟨w.heap.size + 1, 1, none⟩ = some (.int .i64 d') ∧ w'.cell? ⟨w.heap.size + 1, 2, none⟩ = some (.slice A L'.length cc) ∧ w'.cell? ⟨w.heap.size + 1 + 1, 0, none⟩ = some (.int .i64 L'.length) ∧ w'.cell? ⟨w.heap.size + 1 + 1 + 1, 0, none⟩ = some (.int .i64 s')) (ds := []) #[false, false, false, false, false, false, false, false, false, false, false, false, false, false, false, false, false] (by kernel_rfl) rfl rfl (HSS.out _ HK1.out) (fun hHeld => ?_)
          refine take_ (i := 0) (N := some 18) (v := ?_) (a' := ?_) #[true, false, false, false, false, false, false, false, false, false, false, false, false, false, false, false, false] rfl rfl (by kernel_rfl) (fun _ _ _ h => h) (Or.inl ⟨by rfl, ?_⟩) hHeld ?_ ?_
          rotate_left
          ·
           rintro w' ⟨s0, s1, s2, s3, s4⟩
           go_simp
           with_reducible rfl
          rotate_left
          ·
           simp only [Act.put, List.setIfInBounds_toArray, List.set_cons_zero, List.set_cons_succ]
           rfl
          refine one_ (i := 1) (N := some 19) #[true, true, false, false, false, false, false, false, false, false, false, false, false, false, false, false, false] rfl rfl (by kernel_rfl) (by decide) (fun K hK => ?_)
          refine goes_ Tryz.func22 (by kernel_rfl) rfl #[.agg #[.int .i64 n', .int .i64 d', .slice A L'.length cc]] (by rfl) rfl rfl (by (try simp only [List.map_toArray, List.map_cons, List.map_nil]); first | done | rfl) ?_
          refine (HVal.out _ HK1.out).mono ?_
          rintro e w2 ⟨rfl, hb⟩
          refine ⟨_, rfl, ?_⟩
          have HK2 := Lib.hid hb
          clear hb
          refine hK.out _ _ (HSS.out _ HK2.out) (fun hHeld => ?_)
          clear hK K
          refine norm_ (a' := ?_) ?_ ?_
          rotate_left
          ·
           show Act.put _ (some 19) _ = _
           simp only [Act.put, List.setIfInBounds_toArray, List.set_cons_zero, List.set_cons_succ]
           rfl
          refine pure_ (i := 2) (N := some 20) (v := ?_) (a' := ?_) #[true, true, true, false, false, false, false, false, false, false, false, false, false, false, false, false, false] rfl rfl (by kernel_rfl) (fun _ _ _ h => h) (Or.inl ⟨by rfl, ?_⟩) ?_ ?_
          rotate_left
          ·
           intro w'
           go_simp
           with_reducible rfl
          rotate_left
          ·
           simp only [Act.put, List.setIfInBounds_toArray, List.set_cons_zero, List.set_cons_succ]
           rfl
          refine pure_ (i := 3) (N := some 21) (v := ?_) (a' := ?_) #[true, true, true, true, false, false, false, false, false, false, false, false, false, false, false, false, false] rfl rfl (by kernel_rfl) (fun _ _ _ h => h) (Or.inl ⟨by rfl, ?_⟩) ?_ ?_
          rotate_left
          ·
           intro w'
           go_simp
           with_reducible rfl
          rotate_left
          ·
           simp only [Act.put, List.setIfInBounds_toArray, List.set_cons_zero, List.set_cons_succ]
           rfl
          refine take_ (i := 4) (N := some 22) (v := ?_) (a' := ?_) #[true, true, true, true, true, false, false, false, false, false, false, false, false, false, false, false, false] rfl rfl (by kernel_rfl) (fun _ _ _ h => h) (Or.inl ⟨by rfl, ?_⟩) hHeld ?_ ?_
          rotate_left
          ·
           rintro w' ⟨s0, s1, s2, s3, s4⟩
           go_simp
           with_reducible rfl
          rotate_left
          ·
           simp only [Act.put, List.setIfInBounds_toArray, List.set_cons_zero, List.set_cons_succ]
           rfl
          refine pure_ (i := 5) (N := some 23) (v := ?_) (a' := ?_) #[true, true, true, true, true, true, false, false, false, false, false, false, false, false, false, false, false] rfl rfl (by kernel_rfl) (fun _ _ _ h => h) (Or.inl ⟨by rfl, ?_⟩) ?_ ?_
          rotate_left
          ·
           intro w'
           go_simp
           with_reducible rfl
          rotate_left
          ·
           simp only [Act.put, List.setIfInBounds_toArray, List.set_cons_zero, List.set_cons_succ]
           rfl
          refine take_ (i := 6) (N := some 24) (v := ?_) (a' := ?_) #[true, true, true, true, true, true, true, false, false, false, false, false, false, false, false, false, false] rfl rfl (by kernel_rfl) (fun _ _ _ h => h) (Or.inl ⟨by rfl, ?_⟩) hHeld ?_ ?_
          rotate_left
          ·
           rintro w' ⟨s0, s1, s2, s3, s4⟩
           go_simp
           with_reducible rfl
          rotate_left
          ·
           simp only [Act.put, List.setIfInBounds_toArray, List.set_cons_zero, List.set_cons_succ]
           rfl
          refine pure_ (i := 7) (N := some 25) (v := ?_) (a' := ?_) #[true, true, true, true, true, true, true, true, false, false, false, false, false, false, false, false, false] rfl rfl (by kernel_rfl) (fun _ _ _ h => h) (Or.inl ⟨by rfl, ?_⟩) ?_ ?_
          rotate_left
          ·
           intro w'
           go_simp
           with_reducible rfl
          rotate_left
          ·
           simp only [Act.put, List.setIfInBounds_toArray, List.set_cons_zero, List.set_cons_succ]
           rfl
          refine pure_ (i := 8) (N := some 26) (v := ?_) (a' := ?_) #[true, true, true, true, true, true, true, true, true, false, false, false, false, false, false, false, false] rfl rfl (by kernel_rfl) (fun _ _ _ h => h) (Or.inl ⟨by rfl, ?_⟩) ?_ ?_
          rotate_left
          ·
           intro w'
           go_simp
           with_reducible rfl
          rotate_left
          ·
           simp only [Act.put, List.setIfInBounds_toArray, List.set_cons_zero, List.set_cons_succ]
           rfl
          refine pure_ (i := 9) (N := some 27) (v := ?_) (a' := ?_) #[true, true, true, true, true, true, true, true, true, true, false, false, false, false, false, false, false] rfl rfl (by kernel_rfl) (fun _ _ _ h => h) (Or.inl ⟨by rfl, ?_⟩) ?_ ?_
          rotate_left
          ·
           intro w'
           go_simp
           with_reducible rfl
          rotate_left
          ·
           simp only [Act.put, List.setIfInBounds_toArray, List.set_cons_zero, List.set_cons_succ]
           rfl
          refine pure_ (i := 10) (N := some 28) (v := ?_) (a' := ?_) #[true, true, true, true, true, true, true, true, true, true, true, false, false, false, false, false, false] rfl rfl (by kernel_rfl) (fun _ _ _ h => h) (Or.inl ⟨by rfl, ?_⟩) ?_ ?_
          rotate_left
          ·
           intro w'
           go_simp
           with_reducible rfl
          rotate_left
          ·
           simp only [Act.put, List.setIfInBounds_toArray, List.set_cons_zero, List.set_cons_succ]
           rfl
          refine take_ (i := 11) (N := some 29) (v := ?_) (a' := ?_) #[true, true, true, true, true, true, true, true, true, true, true, true, false, false, false, false, false] rfl rfl (by kernel_rfl) (fun _ _ _ h => h) (Or.inl ⟨by rfl, ?_⟩) hHeld ?_ ?_
          rotate_left
          ·
           rintro w' ⟨s0, s1, s2, s3, s4⟩
           go_simp
           with_reducible rfl
          rotate_left
          ·
           simp only [Act.put, List.setIfInBounds_toArray, List.set_cons_zero, List.set_cons_succ]
           rfl
          refine take_ (i := 12) (N := some 30) (v := ?_) (a' := ?_) #[true, true, true, true, true, true, true, true, true, true, true, true, true, false, false, false, false] rfl rfl (by kernel_rfl) (fun _ _ _ h => h) (Or.inl ⟨by rfl, ?_⟩) hHeld ?_ ?_
          rotate_left
          ·
           rintro w' ⟨s0, s1, s2, s3, s4⟩
           go_simp
           with_reducible rfl
          rotate_left
          ·
           simp only [Act.put, List.setIfInBounds_toArray, List.set_cons_zero, List.set_cons_succ]
           rfl
          refine one_ (i := 13) (N := some 31) #[true, true, true, true, true, true, true, true, true, true, true, true, true, true, false, false, false] rfl rfl (by kernel_rfl) (by decide) (fun K hK => ?_)
          refine goes_ Tryz.func46 (by kernel_rfl) rfl #[.agg #[.int .i64 n', .int .i64 d', .slice A L'.length cc]] (by rfl) rfl rfl (by (try simp only [List.map_toArray, List.map_cons, List.map_nil]); first | done | rfl) ?_
          refine (HTot.out trivial _ HK2.out).mono ?_
          rintro e w3 ⟨rfl, hb⟩
          refine ⟨_, rfl, ?_⟩
          have HK3 := Lib.hid hb
          clear hb
          refine hK.out _ _ (HSS.out _ HK3.out) (fun hHeld => ?_)
          clear hK K
          refine norm_ (a' := ?_) ?_ ?_
          rotate_left
          ·
           show Act.put _ (some 31) _ = _
           simp only [Act.put, List.setIfInBounds_toArray, List.set_cons_zero, List.set_cons_succ]
           rfl
          refine pure_ (i := 14) (N := some 32) (v := ?_) (a' := ?_) #[true, true, true, true, true, true, true, true, true, true, true, true, true, true, true, false, false] rfl rfl (by kernel_rfl) (fun _ _ _ h => h) (Or.inl ⟨by rfl, ?_⟩) ?_ ?_
          rotate_left
          ·
           intro w'
           go_simp
           with_reducible rfl
          rotate_left
          ·
           simp only [Act.put, List.setIfInBounds_toArray, List.set_cons_zero, List.set_cons_succ]
           rfl
          refine pure_ (i := 15) (N := some 33) (v := ?_) (a' := ?_) #[true, true, true, true, true, true, true, true, true, true, true, true, true, true, true, true, false] rfl rfl (by kernel_rfl) (fun _ _ _ h => h) (Or.inl ⟨by rfl, ?_⟩) ?_ ?_
          rotate_left
          ·
           intro w'
           go_simp
           with_reducible rfl
          rotate_left
          ·
           simp only [Act.put, List.setIfInBounds_toArray, List.set_cons_zero, List.set_cons_succ]
           rfl
          refine pure_ (i := 16) (N := some 17) (v := ?_) (a' := ?_) #[true, true, true, true, true, true, true, true, true, true, true, true, true, true, true, true, true] rfl rfl (by kernel_rfl) (fun _ _ _ h => h) (Or.inl ⟨by rfl, ?_⟩) ?_ ?_
          rotate_left
          ·
           intro w'
           go_simp
           with_reducible rfl
          rotate_left
          ·
           simp only [Act.put, List.setIfInBounds_toArray, List.set_cons_zero, List.set_cons_succ]
           rfl
          refine done_ (by kernel_rfl) ?_
          have g5 := (HK3.out.block _ (blk_lt HR5.out)).trans HR5.out
          have r0 : w3.cell? ⟨w.heap.size, 0, none⟩ = some (.int .i64 0) := blk_cell g5 0
          have r1 : w3.cell? ⟨w.heap.size, 1, none⟩ = some (.int .i64 0) := blk_cell g5 1
          have r2 : w3.cell? ⟨w.heap.size, 2, none⟩ = some (.slice none 0 0) := blk_cell g5 2
          have f0 : w3.frozen? ⟨w.heap.size, 0, none⟩ = false := blk_frozen g5 0
          have f1 : w3.frozen? ⟨w.heap.size, 1, none⟩ = false := blk_frozen g5 1
          have f2 : w3.frozen? ⟨w.heap.size, 2, none⟩ = false := blk_frozen g5 2
          obtain ⟨a0, a1, a2, a3, a4⟩ := HSS.out _ HK3.out
          have HLow6 := Lib.hid (below_then HLow.out HLow.out.size HK3.out)
          have HRR6 := Lib.hid (Kd.R_below HRR.out HK3.out)
          have HG5 := Lib.hid g5
          clear g5 hHeld
          go_wp2_with fail
          have hcs := HCase.out
          rw [if_pos trivial, if_neg hs] at hcs
          obtain ⟨rfl, rfl, rfl, rfl⟩ : n = 0 ∧ d = 0 ∧ L = [] ∧ err = 362 := by simpa using hcs
          refine bodyPost_ret (results_row_tmp rfl _ _ w.heap.size _ #[.int .i64 0, .int .i64 0, .slice none 0 0] (0, 0) _ rfl (blk_put (blk_put (blk_put HG5.out 0 _ rfl) 1 _ rfl) 2 _ rfl) Tryz.underlying27 rfl (by kernel_rfl)) rfl ?_
          exact ⟨.slice none 0 0, rfl, Kd.R_nil _ _ _ _ _, ((HLow6.out.setCell (p := ⟨w.heap.size, 0, none⟩) (Nat.le_refl _) _).setCell (p := ⟨w.heap.size, 1, none⟩) (Nat.le_refl _) _).setCell (p := ⟨w.heap.size, 2, none⟩) (Nat.le_refl _) _⟩
      · have hkb : (k' != (L'.length : Int)) = true := by simpa using hk
        go_wp2_with fail
        refine start_ (n := 17) (S := fun w' => w'.cell? ⟨w.heap.size + 1, 0, none⟩ = some (.int .i64 n') ∧ w'.cell? ⟨w.heap.size + 1, 1, none⟩ = some (.int .i64 d') ∧ w'.cell? ⟨w.heap.size + 1, 2, none⟩ = some (.slice A L'.length cc) ∧ w'.cell? ⟨w.heap.size + 1 + 1, 0, none⟩ = some (.int .i64 k') ∧ w'.cell? ⟨w.heap.size + 1 + 1 + 1, 0, none⟩ = some (.int .i64 s')) (ds := []) #[false, false, false, false, false, false, false, false, false, false, false, false, false, false, false, false, false] (by kernel_rfl) rfl rfl (HSS.out _ HK1.out) (fun hHeld => ?_)
        refine take_ (i := 0) (N := some 18) (v := ?_) (a' := ?_) #[true, false, false, false, false, false, false, false, false, false, false, false, false, false, false, false, false] rfl rfl (by kernel_rfl) (fun _ _ _ h => h) (Or.inl ⟨by rfl, ?_⟩) hHeld ?_ ?_
        rotate_left
        ·
         rintro w' ⟨s0, s1, s2, s3, s4⟩
         go_simp
         with_reducible rfl
        rotate_left
        ·
         simp only [Act.put, List.setIfInBounds_toArray, List.set_cons_zero, List.set_cons_succ]
         rfl
        refine one_ (i := 1) (N := some 19) #[true, true, false, false, false, false, false, false, false, false, false, false, false, false, false, false, false] rfl rfl (by kernel_rfl) (by decide) (fun K hK => ?_)
        refine goes_ Tryz.func22 (by kernel_rfl) rfl #[.agg #[.int .i64 n', .int .i64 d', .slice A L'.length cc]] (by rfl) rfl rfl (by (try simp only [List.map_toArray, List.map_cons, List.map_nil]); first | done | rfl) ?_
        refine (HVal.out _ HK1.out).mono ?_
        rintro e w2 ⟨rfl, hb⟩
        refine ⟨_, rfl, ?_⟩
        have HK2 := Lib.hid hb
        clear hb
        refine hK.out _ _ (HSS.out _ HK2.out) (fun hHeld => ?_)
        clear hK K
        refine norm_ (a' := ?_) ?_ ?_
        rotate_left
        ·
         show Act.put _ (some 19) _ = _
         simp only [Act.put, List.setIfInBounds_toArray, List.set_cons_zero, List.set_cons_succ]
         rfl
        refine pure_ (i := 2) (N := some 20) (v := ?_) (a' := ?_) #[true, true, true, false, false, false, false, false, false, false, false, false, false, false, false, false, false] rfl rfl (by kernel_rfl) (fun _ _ _ h => h) (Or.inl ⟨by rfl, ?_⟩) ?_ ?_
        rotate_left
        ·
         intro w'
         go_simp
         with_reducible rfl
        rotate_left
        ·
         simp only [Act.put, List.setIfInBounds_toArray, List.set_cons_zero, List.set_cons_succ]
         rfl
        refine pure_ (i := 3) (N := some 21) (v := ?_) (a' := ?_) #[true, true, true, true, false, false, false, false, false, false, false, false, false, false, false, false, false] rfl rfl (by kernel_rfl) (fun _ _ _ h => h) (Or.inl ⟨by rfl, ?_⟩) ?_ ?_
        rotate_left
        ·
         intro w'
         go_simp
         with_reducible rfl
        rotate_left
        ·
         simp only [Act.put, List.setIfInBounds_toArray, List.set_cons_zero, List.set_cons_succ]
         rfl
        refine take_ (i := 4) (N := some 22) (v := ?_) (a' := ?_) #[true, true, true, true, true, false, false, false, false, false, false, false, false, false, false, false, false] rfl rfl (by kernel_rfl) (fun _ _ _ h => h) (Or.inl ⟨by rfl, ?_⟩) hHeld ?_ ?_
        rotate_left
        ·
         rintro w' ⟨s0, s1, s2, s3, s4⟩
         go_simp
         with_reducible rfl
        rotate_left
        ·
         simp only [Act.put, List.setIfInBounds_toArray, List.set_cons_zero, List.set_cons_succ]
         rfl
        refine pure_ (i := 5) (N := some 23) (v := ?_) (a' := ?_) #[true, true, true, true, true, true, false, false, false, false, false, false, false, false, false, false, false] rfl rfl (by kernel_rfl) (fun _ _ _ h => h) (Or.inl ⟨by rfl, ?_⟩) ?_ ?_
        rotate_left
        ·
         intro w'
         go_simp
         with_reducible rfl
        rotate_left
        ·
         simp only [Act.put, List.setIfInBounds_toArray, List.set_cons_zero, List.set_cons_succ]
         rfl
        refine take_ (i := 6) (N := some 24) (v := ?_) (a' := ?_) #[true, true, true, true, true, true, true, false, false, false, false, false, false, false, false, false, false] rfl rfl (by kernel_rfl) (fun _ _ _ h => h) (Or.inl ⟨by rfl, ?_⟩) hHeld ?_ ?_
        rotate_left
        ·
         rintro w' ⟨s0, s1, s2, s3, s4⟩
         go_simp
         with_reducible rfl
        rotate_left
        ·
         simp only [Act.put, List.setIfInBounds_toArray, List.set_cons_zero, List.set_cons_succ]
         rfl
        refine pure_ (i := 7) (N := some 25) (v := ?_) (a' := ?_) #[true, true, true, true, true, true, true, true, false, false, false, false, false, false, false, false, false] rfl rfl (by kernel_rfl) (fun _ _ _ h => h) (Or.inl ⟨by rfl, ?_⟩) ?_ ?_
        rotate_left
        ·
         intro w'
         go_simp
         with_reducible rfl
        rotate_left
        ·
         simp only [Act.put, List.setIfInBounds_toArray, List.set_cons_zero, List.set_cons_succ]
         rfl
        refine pure_ (i := 8) (N := some 26) (v := ?_) (a' := ?_) #[true, true, true, true, true, true, true, true, true, false, false, false, false, false, false, false, false] rfl rfl (by kernel_rfl) (fun _ _ _ h => h) (Or.inl ⟨by rfl, ?_⟩) ?_ ?_
        rotate_left
        ·
         intro w'
         go_simp
         with_reducible rfl
        rotate_left
        ·
         simp only [Act.put, List.setIfInBounds_toArray, List.set_cons_zero, List.set_cons_succ]
         rfl
        refine pure_ (i := 9) (N := some 27) (v := ?_) (a' := ?_) #[true, true, true, true, true, true, true, true, true, true, false, false, false, false, false, false, false] rfl rfl (by kernel_rfl) (fun _ _ _ h => h) (Or.inl ⟨by rfl, ?_⟩) ?_ ?_
        rotate_left
        ·
         intro w'
         go_simp
         with_reducible rfl
        rotate_left
        ·
         simp only [Act.put, List.setIfInBounds_toArray, List.set_cons_zero, List.set_cons_succ]
         rfl
        refine pure_ (i := 10) (N := some 28) (v := ?_) (a' := ?_) #[true, true, true, true, true, true, true, true, true, true, true, false, false, false, false, false, false] rfl rfl (by kernel_rfl) (fun _ _ _ h => h) (Or.inl ⟨by rfl, ?_⟩) ?_ ?_
        rotate_left
        ·
         intro w'
         go_simp
         with_reducible rfl
        rotate_left
        ·
         simp only [Act.put, List.setIfInBounds_toArray, List.set_cons_zero, List.set_cons_succ]
         rfl
        refine pure_ (i := 11) (N := some 29) (v := undef) (a' := ?_) #[true, true, true, true, true, true, true, true, true, true, true, true, false, false, false, false, false] rfl rfl (by kernel_rfl) (fun _ _ _ h => h) (Or.inr ⟨by rfl, rfl⟩) ?_ ?_
        rotate_left
        ·
         simp only [Act.put, List.setIfInBounds_toArray, List.set_cons_zero, List.set_cons_succ]
         rfl
        refine pure_ (i := 12) (N := some 30) (v := undef) (a' := ?_) #[true, true, true, true, true, true, true, true, true, true, true, true, true, false, false, false, false] rfl rfl (by kernel_rfl) (fun _ _ _ h => h) (Or.inr ⟨by rfl, rfl⟩) ?_ ?_
        rotate_left
        ·
         simp only [Act.put, List.setIfInBounds_toArray, List.set_cons_zero, List.set_cons_succ]
         rfl
        refine pure_ (i := 13) (N := some 31) (v := undef) (a' := ?_) #[true, true, true, true, true, true, true, true, true, true, true, true, true, true, false, false, false] rfl rfl (by kernel_rfl) (fun _ _ _ h => h) (Or.inr ⟨by rfl, rfl⟩) ?_ ?_
        rotate_left
        ·
         simp only [Act.put, List.setIfInBounds_toArray, List.set_cons_zero, List.set_cons_succ]
         rfl
        refine pure_ (i := 14) (N := some 32) (v := undef) (a' := ?_) #[true, true, true, true, true, true, true, true, true, true, true, true, true, true, true, false, false] rfl rfl (by kernel_rfl) (fun _ _ _ h => h) (Or.inr ⟨by rfl, rfl⟩) ?_ ?_
        rotate_left
        ·
         simp only [Act.put, List.setIfInBounds_toArray, List.set_cons_zero, List.set_cons_succ]
         rfl
        refine pure_ (i := 15) (N := some 33) (v := ?_) (a' := ?_) #[true, true, true, true, true, true, true, true, true, true, true, true, true, true, true, true, false] rfl rfl (by kernel_rfl) (fun _ _ _ h => h) (Or.inl ⟨by rfl, ?_⟩) ?_ ?_
        rotate_left
        ·
         intro w'
         go_simp
         with_reducible rfl
        rotate_left
        ·
         simp only [Act.put, List.setIfInBounds_toArray, List.set_cons_zero, List.set_cons_succ]
         rfl
        refine pure_ (i := 16) (N := some 17) (v := ?_) (a' := ?_) #[true, true, true, true, true, true, true, true, true, true, true, true, true, true, true, true, true] rfl rfl (by kernel_rfl) (fun _ _ _ h => h) (Or.inl ⟨by rfl, ?_⟩) ?_ ?_
        rotate_left
        ·
         intro w'
         go_simp
         with_reducible rfl
        rotate_left
        ·
         simp only [Act.put, List.setIfInBounds_toArray, List.set_cons_zero, List.set_cons_succ]
         rfl
        refine done_ (by kernel_rfl) ?_
        have g5 := (HK2.out.block _ (blk_lt HR5.out)).trans HR5.out
        have r0 : w2.cell? ⟨w.heap.size, 0, none⟩ = some (.int .i64 0) := blk_cell g5 0
        have r1 : w2.cell? ⟨w.heap.size, 1, none⟩ = some (.int .i64 0) := blk_cell g5 1
        have r2 : w2.cell? ⟨w.heap.size, 2, none⟩ = some (.slice none 0 0) := blk_cell g5 2
        have f0 : w2.frozen? ⟨w.heap.size, 0, none⟩ = false := blk_frozen g5 0
        have f1 : w2.frozen? ⟨w.heap.size, 1, none⟩ = false := blk_frozen g5 1
        have f2 : w2.frozen? ⟨w.heap.size, 2, none⟩ = false := blk_frozen g5 2
        obtain ⟨a0, a1, a2, a3, a4⟩ := HSS.out _ HK2.out
        have HLow6 := Lib.hid (below_then HLow.out HLow.out.size HK2.out)
        have HRR6 := Lib.hid (Kd.R_below HRR.out HK2.out)
        have HG5 := Lib.hid g5
        clear g5 hHeld
        go_wp2_with fail
        have hcs := HCase.out
        rw [if_pos trivial, if_neg hk] at hcs
        obtain ⟨rfl, rfl, rfl, rfl⟩ : n = 0 ∧ d = 0 ∧ L = [] ∧ err = 362 := by simpa using hcs
        refine bodyPost_ret (results_row_tmp rfl _ _ w.heap.size _ #[.int .i64 0, .int .i64 0, .slice none 0 0] (0, 0) _ rfl (blk_put (blk_put (blk_put HG5.out 0 _ rfl) 1 _ rfl) 2 _ rfl) Tryz.underlying27 rfl (by kernel_rfl)) rfl ?_
        exact ⟨.slice none 0 0, rfl, Kd.R_nil _ _ _ _ _, ((HLow6.out.setCell (p := ⟨w.heap.size, 0, none⟩) (Nat.le_refl _) _).setCell (p := ⟨w.heap.size, 1, none⟩) (Nat.le_refl _) _).setCell (p := ⟨w.heap.size, 2, none⟩) (Nat.le_refl _) _⟩
  · have hcase : (n, d, L, err) = (0, 0, [], c) := by
      rw [← HR.out]
      unfold fileR
      rw [if_neg (by rw [← hc]; exact h0), ← hc]
    obtain ⟨rfl, rfl, rfl, rfl⟩ : n = 0 ∧ d = 0 ∧ L = [] ∧ err = c := by simpa using hcase
    have r0 : w5.cell? ⟨w.heap.size, 0, none⟩ = some (.int .i64 0) := blk_cell hr5 0
    have r1 : w5.cell? ⟨w.heap.size, 1, none⟩ = some (.int .i64 0) := blk_cell hr5 1
    have r2 : w5.cell? ⟨w.heap.size, 2, none⟩ = some (.slice none 0 0) := blk_cell hr5 2
    have f0 : w5.frozen? ⟨w.heap.size, 0, none⟩ = false := blk_frozen hr5 0
    have f1 : w5.frozen? ⟨w.heap.size, 1, none⟩ = false := blk_frozen hr5 1
    have f2 : w5.frozen? ⟨w.heap.size, 2, none⟩ = false := blk_frozen hr5 2
    clear hcase hc hst hlow hr5 hb5
    go_wp2_with fail
    refine bodyPost_ret (results_row_tmp rfl _ _ w.heap.size _ #[.int .i64 0, .int .i64 0, .slice none 0 0] (0, 0) _ rfl (blk_put (blk_put (blk_put HR5.out 0 _ rfl) 1 _ rfl) 2 _ rfl) Tryz.underlying27 rfl (by kernel_rfl)) rfl ?_
    exact ⟨.slice none 0 0, rfl, Kd.R_nil _ _ _ _ _, ((HLow.out.setCell (p := ⟨w.heap.size, 0, none⟩) (Nat.le_refl _) _).setCell (p := ⟨w.heap.size, 1, none⟩) (Nat.le_refl _) _).setCell (p := ⟨w.heap.size, 2, none⟩) (Nat.le_refl _) _⟩
def bank_Read.f (k : Nat) (a0 : ByteArray) : Option (Int × Int × (List (S47)) × Int) := if a0.size ≤ 4611686018427387904 then some (fileR a0.data.toList) else none
theorem bank_Read.calls (k : Nat) (a0 : ByteArray) (r1 : Int) (r2 : Int) (r3 : List (S47)) (r4 : Int) (w : World) (hG : GG w) (h : bank_Read.f k a0 = some (r1, r2, r3, r4)) :
    Calls Tryz.prog 24 #[.string a0] w fun e w' => ∃ v2_ : Value, e = .returned (.tuple #[.agg #[.int .i64 r1, .int .i64 r2, v2_], .int .i64 r4]) ∧ Kd.R k47 47 w' w.heap.size (fun _ => True) v2_ r3 ∧ Below w.heap.size w w' := by
  unfold bank_Read.f at h
  split at h
  · rename_i hs
    have h2 := readFile_go a0.data.toList hs r1 r2 r3 r4 (Option.some.inj h) w hG
    rwa [Bt_of] at h2
  · cases h
end Go.Proofs.YtndojpcjhkncgaaGreatDoor.Q
end

section
namespace Go.Proofs.YtndojpcjhkncgaaGreatDoor.Q
open Go Go.RowKit Go.Proofs.YtndojpcjhkncgaaGreatDoorW.PrintWords
set_option linter.unusedVariables false
set_option linter.unusedSimpArgs false
def ofOrd (o : S47) : List Int := [o.f0, o.f1, o.f2, o.f3, o.f4]
def ofRet (o : S49) : List Int := [o.f0, o.f1]
theorem orders_flat (rs : List (List Int)) (h : ∀ r ∈ rs, r.length = 5) : rs.flatMap (lineL orderW) = (rs.map toOrd).flatMap orderL := by
  induction rs with
  | nil => rfl
  | cons r rs ih =>
    obtain ⟨a, b, c, d, e, rfl⟩ : ∃ a b c d e, r = [a, b, c, d, e] := by
      match r, h r List.mem_cons_self with
      | [a, b, c, d, e], _ => exact ⟨a, b, c, d, e, rfl⟩
    rw [List.flatMap_cons, List.map_cons, List.flatMap_cons, ih (fun r hr => h r (List.mem_cons_of_mem _ hr))]
    rfl
theorem returns_flat (rs : List (List Int)) (h : ∀ r ∈ rs, r.length = 2) : rs.flatMap (lineL returnW) = (rs.map toRet).flatMap returnL := by
  induction rs with
  | nil => rfl
  | cons r rs ih =>
    obtain ⟨a, b, rfl⟩ : ∃ a b, r = [a, b] := by
      match r, h r List.mem_cons_self with
      | [a, b], _ => exact ⟨a, b, rfl⟩
    rw [List.flatMap_cons, List.map_cons, List.flatMap_cons, ih (fun r hr => h r (List.mem_cons_of_mem _ hr))]
    rfl
theorem toOrd_of (L : List S47) : (L.map ofOrd).map toOrd = L := by
  rw [List.map_map]
  exact List.map_id L
theorem toRet_of (L : List S49) : (L.map ofRet).map toRet = L := by
  rw [List.map_map]
  exact List.map_id L
theorem fileL_lines (n d : Int) (L : List S47) (s : Int) : fileL n d L s = lineL payL [n, d, (L.length : Int), s] ++ (L.map ofOrd).flatMap (lineL orderW) := by
  rw [orders_flat _ (fun r hr => by obtain ⟨o, _, rfl⟩ := List.mem_map.mp hr; rfl), toOrd_of]
  rfl
theorem answerL_lines (n d : Int) (L : List S49) : answerL n d L = lineL backL [n, d, (L.length : Int)] ++ (L.map ofRet).flatMap (lineL returnW) := by
  rw [returns_flat _ (fun r hr => by obtain ⟨o, _, rfl⟩ := List.mem_map.mp hr; rfl), toRet_of]
  rfl
theorem fileText_len {n d : Int} {L : List S47} (h : validB n d L = true) : (fileText n d L).length ≤ 114 + 116 * L.length := by
  have := fileL_len h
  unfold fileText
  rw [List.length_append, endL_len]
  omega
theorem answerText_len {n d : Int} {L : List S49} (h : rightB n d L = true) : (answerText n d L).length ≤ 93 + 51 * L.length := by
  have := answerL_len h
  unfold answerText
  rw [List.length_append, endL_len]
  omega
theorem head_in {n d : Int} {L : List S47} (h : validB n d L = true) : ∀ m ∈ [n, d, (L.length : Int), netSum L], numIn m = true := by
  obtain ⟨h0, h1, h2⟩ := valid_orders h
  have h3 := netSum_le L 0 0 (by omega) (by omega) h2
  simp only [datedB, countB, Bool.and_eq_true, decide_eq_true_eq] at h0
  intro m hm
  rw [numIn_iff]
  simp only [List.mem_cons, List.not_mem_nil, or_false] at hm
  omega
theorem order_in {o : S47} (h : orderB o = true) : ∀ m ∈ ofOrd o, numIn m = true := by
  simp only [orderB, countB, Bool.and_eq_true, decide_eq_true_eq] at h
  intro m hm
  rw [numIn_iff]
  simp only [ofOrd, List.mem_cons, List.not_mem_nil, or_false] at hm
  omega
theorem headA_in {n d : Int} {L : List S49} (h : rightB n d L = true) : ∀ m ∈ [n, d, (L.length : Int)], numIn m = true := by
  obtain ⟨_, h0, h1⟩ := right_parts h
  simp only [datedB, countB, Bool.and_eq_true, decide_eq_true_eq] at h0
  intro m hm
  rw [numIn_iff]
  simp only [List.mem_cons, List.not_mem_nil, or_false] at hm
  omega
theorem back_in {o : S49} (h : backB o = true) : ∀ m ∈ ofRet o, numIn m = true := by
  simp only [backB, countB, Bool.and_eq_true, decide_eq_true_eq] at h
  intro m hm
  rw [numIn_iff]
  simp only [ofRet, List.mem_cons, List.not_mem_nil, or_false] at hm
  omega
theorem fileR_zero (t : List UInt8) (n d : Int) (L : List S47) (h : fileR t = (n, d, L, 0)) : validB n d L = true ∧ t = fileText n d L ∧ t.length ≤ 1048576 := by
  unfold fileR at h
  by_cases hc : readC fileOk t = 0
  · obtain ⟨l, ls, a, rs, h1, h2, h3, h4, h5, h6, h7, h8⟩ := read_text payL orderW (by decide) (by decide) 4 5 t hc
    obtain ⟨a0, a1, a2, a3, rfl⟩ : ∃ a0 a1 a2 a3, a = [a0, a1, a2, a3] := by
      match a, h5 with
      | [a0, a1, a2, a3], _ => exact ⟨a0, a1, a2, a3, rfl⟩
    rw [if_pos hc, h1, fileSt_mk l ls _ rs h2 h3] at h
    have h : (if validB a0 a1 (rs.map toOrd) = true then (if a2 = ((rs.map toOrd).length : Int) then (if a3 = netSum (rs.map toOrd) then (a0, a1, rs.map toOrd, (0 : Int)) else (0, 0, [], 362)) else (0, 0, [], 362)) else (0, 0, [], 362)) = (n, d, L, 0) := h
    by_cases v : validB a0 a1 (rs.map toOrd) = true
    · rw [if_pos v] at h
      by_cases k : a2 = ((rs.map toOrd).length : Int)
      · rw [if_pos k] at h
        by_cases s : a3 = netSum (rs.map toOrd)
        · rw [if_pos s] at h
          cases h
          refine ⟨v, ?_, h8⟩
          have hh : lineL payL [n, d, a2, a3] ++ rs.flatMap (lineL orderW) = fileL n d (rs.map toOrd) (netSum (rs.map toOrd)) := by
            rw [orders_flat rs (fun r hr => (h7 r hr).1), k, s]
            rfl
          rw [hh] at h4
          exact h4
        · rw [if_neg s] at h; cases h
      · rw [if_neg k] at h; cases h
    · rw [if_neg v] at h; cases h
  · rw [if_neg hc] at h
    injection h with _ h
    injection h with _ h
    injection h with _ h
    exact absurd h hc
theorem fileR_else (t : List UInt8) (n d : Int) (L : List S47) (e : Int) (h : fileR t = (n, d, L, e)) (he : e ≠ 0) : n = 0 ∧ d = 0 ∧ L = [] := by
  unfold fileR at h
  split at h
  · split at h
    · split at h
      · split at h
        · split at h
          · cases h; exact absurd rfl he
          · cases h; exact ⟨rfl, rfl, rfl⟩
        · cases h; exact ⟨rfl, rfl, rfl⟩
      · cases h; exact ⟨rfl, rfl, rfl⟩
    · cases h; exact ⟨rfl, rfl, rfl⟩
  · cases h; exact ⟨rfl, rfl, rfl⟩
theorem fileR_text (n d : Int) (L : List S47) (h : validB n d L = true) : fileR (fileText n d L) = (n, d, L, 0) := by
  have hl := fileText_len h
  obtain ⟨v0, v1, v2⟩ := valid_orders h
  have ht : fileText n d L = (lineL payL [n, d, (L.length : Int), netSum L] ++ (L.map ofOrd).flatMap (lineL orderW)) ++ endL (lineL payL [n, d, (L.length : Int), netSum L] ++ (L.map ofOrd).flatMap (lineL orderW)) := by unfold fileText; rw [fileL_lines]
  rw [ht] at hl ⊢
  obtain ⟨r1, r2, r3, r4⟩ := text_read payL orderW (by decide) (by decide) (by decide) (by decide) 4 5 [n, d, (L.length : Int), netSum L] (L.map ofOrd) ⟨rfl, head_in h⟩ (fun r hr => by
    obtain ⟨o, ho, rfl⟩ := List.mem_map.mp hr
    exact ⟨rfl, order_in (orders_mem L 0 0 v2 o ho)⟩) (by omega)
  unfold fileR
  rw [if_pos r1, r2, fileSt_mk _ _ _ _ r3 r4, toOrd_of]
  show (if validB n d L = true then (if (L.length : Int) = (L.length : Int) then (if netSum L = netSum L then (n, d, L, (0 : Int)) else (0, 0, [], 362)) else (0, 0, [], 362)) else (0, 0, [], 362)) = _
  rw [if_pos h, if_pos rfl, if_pos rfl]
theorem answerR_zero (t : List UInt8) (n d : Int) (L : List S49) (h : answerR t = (n, d, L, 0)) : rightB n d L = true ∧ t = answerText n d L ∧ t.length ≤ 1048576 := by
  unfold answerR at h
  by_cases hc : readC answerOk t = 0
  · obtain ⟨l, ls, a, rs, h1, h2, h3, h4, h5, h6, h7, h8⟩ := read_text backL returnW (by decide) (by decide) 3 2 t hc
    obtain ⟨a0, a1, a2, rfl⟩ : ∃ a0 a1 a2, a = [a0, a1, a2] := by
      match a, h5 with
      | [a0, a1, a2], _ => exact ⟨a0, a1, a2, rfl⟩
    rw [if_pos hc, h1, answerSt_mk l ls _ rs h2 h3] at h
    have h : (if rightB a0 a1 (rs.map toRet) = true then (if a2 = ((rs.map toRet).length : Int) then (a0, a1, rs.map toRet, (0 : Int)) else (0, 0, [], 362)) else (0, 0, [], 362)) = (n, d, L, 0) := h
    by_cases v : rightB a0 a1 (rs.map toRet) = true
    · rw [if_pos v] at h
      by_cases k : a2 = ((rs.map toRet).length : Int)
      · rw [if_pos k] at h
        cases h
        refine ⟨v, ?_, h8⟩
        have hh : lineL backL [n, d, a2] ++ rs.flatMap (lineL returnW) = answerL n d (rs.map toRet) := by
          rw [returns_flat rs (fun r hr => (h7 r hr).1), k]
          rfl
        rw [hh] at h4
        exact h4
      · rw [if_neg k] at h; cases h
    · rw [if_neg v] at h; cases h
  · rw [if_neg hc] at h
    injection h with _ h
    injection h with _ h
    injection h with _ h
    exact absurd h hc
theorem answerR_else (t : List UInt8) (n d : Int) (L : List S49) (e : Int) (h : answerR t = (n, d, L, e)) (he : e ≠ 0) : n = 0 ∧ d = 0 ∧ L = [] := by
  unfold answerR at h
  split at h
  · split at h
    · split at h
      · split at h
        · cases h; exact absurd rfl he
        · cases h; exact ⟨rfl, rfl, rfl⟩
      · cases h; exact ⟨rfl, rfl, rfl⟩
    · cases h; exact ⟨rfl, rfl, rfl⟩
  · cases h; exact ⟨rfl, rfl, rfl⟩
theorem answerR_text (n d : Int) (L : List S49) (h : rightB n d L = true) : answerR (answerText n d L) = (n, d, L, 0) := by
  have hl := answerText_len h
  obtain ⟨v2, v0, v1⟩ := right_parts h
  have ht : answerText n d L = (lineL backL [n, d, (L.length : Int)] ++ (L.map ofRet).flatMap (lineL returnW)) ++ endL (lineL backL [n, d, (L.length : Int)] ++ (L.map ofRet).flatMap (lineL returnW)) := by unfold answerText; rw [answerL_lines]
  rw [ht] at hl ⊢
  obtain ⟨r1, r2, r3, r4⟩ := text_read backL returnW (by decide) (by decide) (by decide) (by decide) 3 2 [n, d, (L.length : Int)] (L.map ofRet) ⟨rfl, headA_in h⟩ (fun r hr => by
    obtain ⟨o, ho, rfl⟩ := List.mem_map.mp hr
    exact ⟨rfl, back_in (backs_mem L 0 v2 o ho)⟩) (by omega)
  unfold answerR
  rw [if_pos r1, r2, answerSt_mk _ _ _ _ r3 r4, toRet_of]
  show (if rightB n d L = true then (if (L.length : Int) = (L.length : Int) then (n, d, L, (0 : Int)) else (0, 0, [], 362)) else (0, 0, [], 362)) = _
  rw [if_pos h, if_pos rfl]
theorem Read_ev (t : List UInt8) (h : t.length ≤ 4611686018427387904) : Ev (fun k => bank_Read.f k (B t)) (fileR t) := ⟨0, fun k _ => by
  unfold bank_Read.f
  rw [if_pos (by rw [B_size]; exact h)]
  have : (B t).data.toList = t := by simp [B]
  rw [this]⟩
theorem ReadAnswer_ev (t : List UInt8) (h : t.length ≤ 4611686018427387904) : Ev (fun k => bank_ReadAnswer.f k (B t)) (answerR t) := ⟨0, fun k _ => by
  unfold bank_ReadAnswer.f
  rw [if_pos (by rw [B_size]; exact h)]
  have : (B t).data.toList = t := by simp [B]
  rw [this]⟩
end Go.Proofs.YtndojpcjhkncgaaGreatDoor.Q
end

section
namespace Go.Proofs.YtndojpcjhkncgaaGreatDoor.Q
open Go.RowKit Go.Proofs.YtndojpcjhkncgaaGreatDoorW.PrintWords Go.Proofs.YtndojpcjhkncgaaGreatDoorW.PrintLast Go.Proofs.YtndojpcjhkncgaaGreatDoorW.PrintMore
attribute [local go_sem] max2_int min2_int max_two min_two max_three min_three max_four min_four   -- for this text's walks alone
set_option linter.unusedVariables false
set_option linter.unusedSimpArgs false
mutual
def annuitantref36_parse.j0 : Nat → ByteArray → ByteArray → Int → ByteArray → Int → Int → Bool → Option ((List (List Int)) × Int)
 | 0, _, _, _, _, _, _, _ => none
 | k + 1, x0, x1, x2, x3, x4, x12, x35 => if x35 = true then (some (([] : List (List Int)), 360)) else (if 0 ≤ x12 then (if x12 ≤ (x0.size : Int) then (if 0 ≤ 4 then (if 4 ≤ ((x0.extract (x12 : Int).toNat x0.size).size : Int) then (if ((x0.extract (x12 : Int).toNat x0.size).extract 0 4).toList = ([69, 78, 68, 32] : List UInt8) then (if 4 ≤ 12 then (if 12 ≤ ((x0.extract (x12 : Int).toNat x0.size).size : Int) then ((annuitantref36_digits.f k ((x0.extract (x12 : Int).toNat x0.size).extract 4 12)).bind fun t280 => (if t280 = true then (if 12 < ((x0.extract (x12 : Int).toNat x0.size).size : Int) then (if (bt (x0.extract (x12 : Int).toNat x0.size) 12) = 32 then (if 13 ≤ 21 then (if 21 ≤ ((x0.extract (x12 : Int).toNat x0.size).size : Int) then ((annuitantref36_digits.f k ((x0.extract (x12 : Int).toNat x0.size).extract 13 21)).bind fun t281 => (if t281 = true then (if 21 < ((x0.extract (x12 : Int).toNat x0.size).size : Int) then (annuitantref36_parse.j1 k x0 x1 x2 x3 x4 x12 (x0.extract (x12 : Int).toNat x0.size) ((bt (x0.extract (x12 : Int).toNat x0.size) 21) != 10)) else (none)) else (annuitantref36_parse.j1 k x0 x1 x2 x3 x4 x12 (x0.extract (x12 : Int).toNat x0.size) true))) else (none)) else (none)) else (annuitantref36_parse.j1 k x0 x1 x2 x3 x4 x12 (x0.extract (x12 : Int).toNat x0.size) true)) else (none)) else (annuitantref36_parse.j1 k x0 x1 x2 x3 x4 x12 (x0.extract (x12 : Int).toNat x0.size) true))) else (none)) else (none)) else (annuitantref36_parse.j1 k x0 x1 x2 x3 x4 x12 (x0.extract (x12 : Int).toNat x0.size) true)) else (none)) else (none)) else (none)) else (none))
def annuitantref36_parse.j1 : Nat → ByteArray → ByteArray → Int → ByteArray → Int → Int → ByteArray → Bool → Option ((List (List Int)) × Int)
 | 0, _, _, _, _, _, _, _, _ => none
 | k + 1, x0, x1, x2, x3, x4, x12, x13, x63 => if x63 = true then (some (([] : List (List Int)), 360)) else (if 0 ≤ (wrap64 (x12 - 1)) then (if (wrap64 (x12 - 1)) ≤ (x0.size : Int) then ((annuitantref36_pieces.f k (x0.extract 0 ((wrap64 (x12 - 1)) : Int).toNat) 10).bind fun t282 => (annuitantref36_parse.l0 k x0 x1 x2 x3 x4 x12 x13 t282 ([] : List (List Int)) 0)) else (none)) else (none))
def annuitantref36_parse.l0 : Nat → ByteArray → ByteArray → Int → ByteArray → Int → Int → ByteArray → List ByteArray → List (List Int) → Int → Option ((List (List Int)) × Int)
 | 0, _, _, _, _, _, _, _, _, _, _ => none
 | k + 1, x0, x1, x2, x3, x4, x12, x13, x14, x15, x16 => if x16 < (x14.length : Int) then (if x16 = 0 then (if 0 ≤ x16 then ((annuitantref36_numbers.f k (rdOf ByteArray.empty x14 x16) x1 x2).bind fun bt287 => (if bt287.2 = true then (if x15.length < 5864062014805 then (annuitantref36_parse.l0 k x0 x1 x2 x3 x4 x12 x13 x14 (x15 ++ [bt287.1]) (wrap64 (x16 + 1))) else (none)) else (some (([] : List (List Int)), 360)))) else (none)) else (if 0 ≤ x16 then ((annuitantref36_numbers.f k (rdOf ByteArray.empty x14 x16) x3 x4).bind fun bt295 => (if bt295.2 = true then (if x15.length < 5864062014805 then (annuitantref36_parse.l0 k x0 x1 x2 x3 x4 x12 x13 x14 (x15 ++ [bt295.1]) (wrap64 (x16 + 1))) else (none)) else (some (([] : List (List Int)), 360)))) else (none))) else (if 0 ≤ x12 then (if x12 ≤ (x0.size : Int) then ((annuitantref36_End.f k (x0.extract 0 (x12 : Int).toNat)).bind fun t285 => (if t285.toList = x13.toList then (some (x15, 0)) else (some (([] : List (List Int)), 361)))) else (none)) else (none))
end
def annuitantref36_parse.f (k : Nat) (a0 : ByteArray) (a1 : ByteArray) (a2 : Int) (a3 : ByteArray) (a4 : Int) : Option ((List (List Int)) × Int) := if (a0.size : Int) > 1048576 then (some (([] : List (List Int)), 3)) else (if (wrap64 ((a0.size : Int) - 22)) < 1 then (annuitantref36_parse.j0 k a0 a1 a2 a3 a4 (wrap64 ((a0.size : Int) - 22)) true) else (if 0 ≤ (wrap64 ((wrap64 ((a0.size : Int) - 22)) - 1)) then (if (wrap64 ((wrap64 ((a0.size : Int) - 22)) - 1)) < (a0.size : Int) then (annuitantref36_parse.j0 k a0 a1 a2 a3 a4 (wrap64 ((a0.size : Int) - 22)) ((bt a0 (wrap64 ((wrap64 ((a0.size : Int) - 22)) - 1))) != 10)) else (none)) else (none)))
set_option maxHeartbeats 8000000 in
set_option maxRecDepth 100000 in
theorem annuitantref36_parse.calls (k : Nat) (a0 : ByteArray) (a1 : ByteArray) (a2 : Int) (a3 : ByteArray) (a4 : Int) (r1 : List (List Int)) (r2 : Int) (w : World) (h : annuitantref36_parse.f k a0 a1 a2 a3 a4 = some (r1, r2)) :
  Calls Tryz.prog 57 #[.string a0, .string a1, .int .i64 a2, .string a3, .int .i64 a4] w fun e w' => ∃ v0_ : Value, e = .returned (.tuple #[v0_, .int .i64 r2]) ∧ Kd.S (Kd.slice 3 (Kd.int .i64)) 44 w' w.heap.size (fun _ => True) v0_ r1 ∧ Below w.heap.size w w' := by
 have HB := Aside0.mk (Below.refl w.heap.size w); have H : (if (a0.size : Int) > 1048576 then (some (([] : List (List Int)), 3)) else (if (wrap64 ((a0.size : Int) - 22)) < 1 then (annuitantref36_parse.j0 k a0 a1 a2 a3 a4 (wrap64 ((a0.size : Int) - 22)) true) else (if 0 ≤ (wrap64 ((wrap64 ((a0.size : Int) - 22)) - 1)) then (if (wrap64 ((wrap64 ((a0.size : Int) - 22)) - 1)) < (a0.size : Int) then (annuitantref36_parse.j0 k a0 a1 a2 a3 a4 (wrap64 ((a0.size : Int) - 22)) ((bt a0 (wrap64 ((wrap64 ((a0.size : Int) - 22)) - 1))) != 10)) else (none)) else (none)))) = some (r1, r2) := h; clear h
 by_cases c6 : (a0.size : Int) > 1048576
 ·
  rw [if_pos c6] at H
  have c6b0 : decide (1048576 < (a0.size : Int)) = true := decide_eq_true c6; have c6b1 : decide (1048576 < a0.size) = true := decide_eq_true (by omega); clear c6
  simp only [Option.some.injEq, Prod.mk.injEq] at H
  obtain ⟨rfl, rfl⟩ := H
  go_enter Tryz.func57, Tryz.ntmps57
  go_wp2
  go_ret2
  exact ⟨_, zE, by first | exact Kd.S_nil _ _ _ _ _ | exact Kd.N_nil _ _ _ _ _ | exact Kd.V_nil _ _ _ _ _ | exact Kd.Q_nil _ _ _ _ _ | exact Kd.R_nil _ _ _ _ _, zB⟩
 ·
  rw [if_neg c6] at H
  have c6b0 : decide (1048576 < (a0.size : Int)) = false := decide_eq_false c6; have c6b1 : decide (1048576 < a0.size) = false := decide_eq_false (by omega); clear c6; have HC7 := Aside0.mk H; clear H
  go_enter Tryz.func57, Tryz.ntmps57
  go_upto_region 4 with (fail)
  go_cut [35] (fun v35 wc => ∃ (kq : Nat) (x35_6 : Bool), v35 = .bool x35_6 ∧ Aside0 (annuitantref36_parse.j0 kq a0 a1 a2 a3 a4 (wrap64 ((a0.size : Int) - 22)) x35_6 = some (r1, r2)) ∧ Aside0 (kq ≤ k) ∧ Aside0 (Below w.heap.size w wc))
  case first =>
   have H := HC7.out; clear HC7
   by_cases c8 : (wrap64 ((a0.size : Int) - 22)) < 1
   ·
    rw [if_pos c8] at H
    have c8b0 : decide ((wrap64 ((a0.size : Int) - 22)) < 1) = true := decide_eq_true c8; clear c8
    (first | rw [c8b0] | (simp only [i64_w, i32_w]; rw [c8b0]) | skip)
    have H' := Aside0.mk H; clear H
    go_wp2
    go_meet
    case rel => exact ⟨_, (true), (by first | rfl | (simp; done) | (simp [*]; done)), H', ⟨by first | omega | exact Nat.le_refl _⟩, ⟨zB⟩⟩
   ·
    rw [if_neg c8] at H
    have c8b0 : decide ((wrap64 ((a0.size : Int) - 22)) < 1) = false := decide_eq_false c8; clear c8
    (first | rw [c8b0] | (simp only [i64_w, i32_w]; rw [c8b0]) | skip)
    obtain ⟨ji9, hji9⟩ : ∃ j_ : Int, (wrap64 ((wrap64 ((a0.size : Int) - 22)) - 1)) = j_ := ⟨_, rfl⟩
    replace H : (if 0 ≤ (ji9) then (if (ji9) < (a0.size : Int) then (annuitantref36_parse.j0 k a0 a1 a2 a3 a4 (wrap64 ((a0.size : Int) - 22)) ((bt a0 (ji9)) != 10)) else (none)) else (none)) = some (r1, r2) := by first | (rw [hji9] at H; exact H) | (simp only [hji9] at H ⊢; exact H)
    have hji9w : (IntKind.i64.wrap ((wrap64 ((a0.size : Int) - 22)) - 1)) = ji9 := (i64_w _).trans hji9
    by_cases c10 : 0 ≤ (ji9)
    ·
     rw [if_pos c10] at H
     have c10b0 : decide (0 ≤ (ji9)) = true := decide_eq_true c10; clear c10
     by_cases c11 : (ji9) < (a0.size : Int)
     ·
      rw [if_pos c11] at H
      have c11b0 : decide ((ji9) < (a0.size : Int)) = true := decide_eq_true c11; clear c11; have H' := Aside0.mk H; clear H; have p12 : 0 ≤ ((ji9) : Int) := zD; have q12 : (ji9) < (a0.size : Int) := zD; have hx12 := bt_at a0 (ji9); replace p12 := eq_true p12; replace q12 := eq_true q12
      go_wp2
      go_meet
      case rel => exact ⟨_, (((bt a0 (ji9)) != 10)), (by first | rfl | (simp; done) | (simp only [← hji9] <;> (first | rfl | simp)) | (simp [*]; done)), H', ⟨by first | omega | exact Nat.le_refl _⟩, ⟨zB⟩⟩
     ·
      rw [if_neg c11] at H
      exact absurd H (by simp)
    ·
     rw [if_neg c10] at H
     exact absurd H (by simp)
  case rest =>
   clear HC7
   try clear c1
   try clear p1
   try clear q1
   try clear hx1
   try clear p2
   try clear c5
   try clear c6
   try clear c6b0
   try clear c6b1
   try clear p6
   try clear c8
   try clear c8b0
   try clear c10
   try clear c10b0
   try clear c11
   try clear c11b0
   try clear p12
   try clear q12
   try clear hx12
   try clear p12
   try clear q12
   obtain ⟨kq, x35_6, rfl, HA, HJ6, HB⟩ := hcut
   cases kq with
   | zero => exact absurd HA.out (by simp [annuitantref36_parse.j0])
   | succ kj6 =>
    have H := HA.out; clear HA
    simp only [annuitantref36_parse.j0] at H
    by_cases c13 : x35_6 = true
    ·
     subst c13
     have H1 : (some (([] : List (List Int)), 360)) = some (r1, r2) := by rw [if_pos rfl] at H; exact H
     clear H; have H := H1; clear H1
     simp only [Option.some.injEq, Prod.mk.injEq] at H
     obtain ⟨rfl, rfl⟩ := H
     go_wp2
     go_ret2
     exact ⟨_, zE, by first | exact Kd.S_nil _ _ _ _ _ | exact Kd.N_nil _ _ _ _ _ | exact Kd.V_nil _ _ _ _ _ | exact Kd.Q_nil _ _ _ _ _ | exact Kd.R_nil _ _ _ _ _, zB⟩
    ·
     replace c13 := Bool.eq_false_iff.mpr c13; subst c13
     have H1 : (if 0 ≤ (wrap64 ((a0.size : Int) - 22)) then (if (wrap64 ((a0.size : Int) - 22)) ≤ (a0.size : Int) then (if 0 ≤ 4 then (if 4 ≤ ((a0.extract ((wrap64 ((a0.size : Int) - 22)) : Int).toNat a0.size).size : Int) then (if ((a0.extract ((wrap64 ((a0.size : Int) - 22)) : Int).toNat a0.size).extract 0 4).toList = ([69, 78, 68, 32] : List UInt8) then (if 4 ≤ 12 then (if 12 ≤ ((a0.extract ((wrap64 ((a0.size : Int) - 22)) : Int).toNat a0.size).size : Int) then ((annuitantref36_digits.f kj6 ((a0.extract ((wrap64 ((a0.size : Int) - 22)) : Int).toNat a0.size).extract 4 12)).bind fun t280 => (if t280 = true then (if 12 < ((a0.extract ((wrap64 ((a0.size : Int) - 22)) : Int).toNat a0.size).size : Int) then (if (bt (a0.extract ((wrap64 ((a0.size : Int) - 22)) : Int).toNat a0.size) 12) = 32 then (if 13 ≤ 21 then (if 21 ≤ ((a0.extract ((wrap64 ((a0.size : Int) - 22)) : Int).toNat a0.size).size : Int) then ((annuitantref36_digits.f kj6 ((a0.extract ((wrap64 ((a0.size : Int) - 22)) : Int).toNat a0.size).extract 13 21)).bind fun t281 => (if t281 = true then (if 21 < ((a0.extract ((wrap64 ((a0.size : Int) - 22)) : Int).toNat a0.size).size : Int) then (annuitantref36_parse.j1 kj6 a0 a1 a2 a3 a4 (wrap64 ((a0.size : Int) - 22)) (a0.extract ((wrap64 ((a0.size : Int) - 22)) : Int).toNat a0.size) ((bt (a0.extract ((wrap64 ((a0.size : Int) - 22)) : Int).toNat a0.size) 21) != 10)) else (none)) else (annuitantref36_parse.j1 kj6 a0 a1 a2 a3 a4 (wrap64 ((a0.size : Int) - 22)) (a0.extract ((wrap64 ((a0.size : Int) - 22)) : Int).toNat a0.size) true))) else (none)) else (none)) else (annuitantref36_parse.j1 kj6 a0 a1 a2 a3 a4 (wrap64 ((a0.size : Int) - 22)) (a0.extract ((wrap64 ((a0.size : Int) - 22)) : Int).toNat a0.size) true)) else (none)) else (annuitantref36_parse.j1 kj6 a0 a1 a2 a3 a4 (wrap64 ((a0.size : Int) - 22)) (a0.extract ((wrap64 ((a0.size : Int) - 22)) : Int).toNat a0.size) true))) else (none)) else (none)) else (annuitantref36_parse.j1 kj6 a0 a1 a2 a3 a4 (wrap64 ((a0.size : Int) - 22)) (a0.extract ((wrap64 ((a0.size : Int) - 22)) : Int).toNat a0.size) true)) else (none)) else (none)) else (none)) else (none)) = some (r1, r2) := by rw [if_neg (show ¬ (false = true) by decide)] at H; exact H
     clear H; have H := H1; clear H1
     obtain ⟨ji14, hji14⟩ : ∃ j_ : Int, (wrap64 ((a0.size : Int) - 22)) = j_ := ⟨_, rfl⟩
     replace H : (if 0 ≤ (ji14) then (if (ji14) ≤ (a0.size : Int) then (if 0 ≤ 4 then (if 4 ≤ ((a0.extract ((ji14) : Int).toNat a0.size).size : Int) then (if ((a0.extract ((ji14) : Int).toNat a0.size).extract 0 4).toList = ([69, 78, 68, 32] : List UInt8) then (if 4 ≤ 12 then (if 12 ≤ ((a0.extract ((ji14) : Int).toNat a0.size).size : Int) then ((annuitantref36_digits.f kj6 ((a0.extract ((ji14) : Int).toNat a0.size).extract 4 12)).bind fun t280 => (if t280 = true then (if 12 < ((a0.extract ((ji14) : Int).toNat a0.size).size : Int) then (if (bt (a0.extract ((ji14) : Int).toNat a0.size) 12) = 32 then (if 13 ≤ 21 then (if 21 ≤ ((a0.extract ((ji14) : Int).toNat a0.size).size : Int) then ((annuitantref36_digits.f kj6 ((a0.extract ((ji14) : Int).toNat a0.size).extract 13 21)).bind fun t281 => (if t281 = true then (if 21 < ((a0.extract ((ji14) : Int).toNat a0.size).size : Int) then (annuitantref36_parse.j1 kj6 a0 a1 a2 a3 a4 (ji14) (a0.extract ((ji14) : Int).toNat a0.size) ((bt (a0.extract ((ji14) : Int).toNat a0.size) 21) != 10)) else (none)) else (annuitantref36_parse.j1 kj6 a0 a1 a2 a3 a4 (ji14) (a0.extract ((ji14) : Int).toNat a0.size) true))) else (none)) else (none)) else (annuitantref36_parse.j1 kj6 a0 a1 a2 a3 a4 (ji14) (a0.extract ((ji14) : Int).toNat a0.size) true)) else (none)) else (annuitantref36_parse.j1 kj6 a0 a1 a2 a3 a4 (ji14) (a0.extract ((ji14) : Int).toNat a0.size) true))) else (none)) else (none)) else (annuitantref36_parse.j1 kj6 a0 a1 a2 a3 a4 (ji14) (a0.extract ((ji14) : Int).toNat a0.size) true)) else (none)) else (none)) else (none)) else (none)) = some (r1, r2) := by first | (rw [hji14] at H; exact H) | (simp only [hji14] at H ⊢; exact H)
     have hji14w : (IntKind.i64.wrap ((a0.size : Int) - 22)) = ji14 := (i64_w _).trans hji14
     by_cases c15 : 0 ≤ (ji14)
     ·
      rw [if_pos c15] at H
      have c15b0 := eq_true c15; have c15b1 : decide (0 ≤ (ji14)) = true := decide_eq_true c15; clear c15
      by_cases c16 : (ji14) ≤ (a0.size : Int)
      ·
       rw [if_pos c16] at H
       have c16b0 := eq_true c16; have c16b1 : decide ((ji14) ≤ (a0.size : Int)) = true := decide_eq_true c16; clear c16; have HC17 := Aside0.mk H; clear H
       go_upto_region 7 with (fail)
       go_cut [63] (fun v63 wc => ∃ (kq : Nat) (x63_16 : Bool), v63 = .bool x63_16 ∧ Aside0 (annuitantref36_parse.j1 kq a0 a1 a2 a3 a4 (ji14) (a0.extract ((ji14) : Int).toNat a0.size) x63_16 = some (r1, r2)) ∧ Aside0 (kq ≤ kj6) ∧ Aside0 (Below w.heap.size w wc))
       case first =>
        have H := HC17.out; clear HC17
        by_cases c18 : 0 ≤ 4
        ·
         rw [if_pos c18] at H
         have c18b0 := eq_true c18; have c18b1 : decide (0 ≤ 4) = true := decide_eq_true c18; clear c18
         by_cases c19 : 4 ≤ ((a0.extract ((ji14) : Int).toNat a0.size).size : Int)
         ·
          rw [if_pos c19] at H
          have c19b0 := eq_true c19; have c19b1 : decide (4 ≤ ((a0.extract ((ji14) : Int).toNat a0.size).size : Int)) = true := decide_eq_true c19
          have c19b6 : 4 ≤ a0.size - ji14.toNat := by have e_ : (a0.extract ((ji14) : Int).toNat a0.size).size = a0.size - ji14.toNat := (by rw [ByteArray.size_extract]; omega); omega
          have c19b7 : decide (4 ≤ a0.size - ji14.toNat) = true := decide_eq_true c19b6
          have c19b8 : (4 : Int) ≤ ((a0.size - ji14.toNat : Nat) : Int) := by omega
          clear c19
          by_cases c20 : ((a0.extract ((ji14) : Int).toNat a0.size).extract 0 4).toList = ([69, 78, 68, 32] : List UInt8)
          ·
           rw [if_pos c20] at H
           have c20b0 : (((a0.extract ((ji14) : Int).toNat a0.size).extract 0 4).toList == ([69, 78, 68, 32] : List UInt8)) = true := beq_iff_eq.mpr c20; have c20b1 : (((a0.extract ((ji14) : Int).toNat a0.size).extract 0 4).toList != ([69, 78, 68, 32] : List UInt8)) = false := bne_eq_false_iff_eq.mpr c20; clear c20
           (first | rw [c20b0] | (simp only [i64_w, i32_w]; rw [c20b0]) | skip)
           by_cases c21 : 4 ≤ 12
           ·
            rw [if_pos c21] at H
            have c21b0 := eq_true c21; have c21b1 : decide (4 ≤ 12) = true := decide_eq_true c21; clear c21
            by_cases c22 : 12 ≤ ((a0.extract ((ji14) : Int).toNat a0.size).size : Int)
            ·
             rw [if_pos c22] at H
             have c22b0 := eq_true c22; have c22b1 : decide (12 ≤ ((a0.extract ((ji14) : Int).toNat a0.size).size : Int)) = true := decide_eq_true c22
             have c22b6 : 12 ≤ a0.size - ji14.toNat := by have e_ : (a0.extract ((ji14) : Int).toNat a0.size).size = a0.size - ji14.toNat := (by rw [ByteArray.size_extract]; omega); omega
             have c22b7 : decide (12 ≤ a0.size - ji14.toNat) = true := decide_eq_true c22b6
             have c22b8 : (12 : Int) ≤ ((a0.size - ji14.toNat : Nat) : Int) := by omega
             clear c22; replace H := Option.bind_eq_some_iff.mp H; obtain ⟨t280, A230, H⟩ := H; replace H : (if t280 = true then (if 12 < ((a0.extract ((ji14) : Int).toNat a0.size).size : Int) then (if (bt (a0.extract ((ji14) : Int).toNat a0.size) 12) = 32 then (if 13 ≤ 21 then (if 21 ≤ ((a0.extract ((ji14) : Int).toNat a0.size).size : Int) then ((annuitantref36_digits.f kj6 ((a0.extract ((ji14) : Int).toNat a0.size).extract 13 21)).bind fun t281 => (if t281 = true then (if 21 < ((a0.extract ((ji14) : Int).toNat a0.size).size : Int) then (annuitantref36_parse.j1 kj6 a0 a1 a2 a3 a4 (ji14) (a0.extract ((ji14) : Int).toNat a0.size) ((bt (a0.extract ((ji14) : Int).toNat a0.size) 21) != 10)) else (none)) else (annuitantref36_parse.j1 kj6 a0 a1 a2 a3 a4 (ji14) (a0.extract ((ji14) : Int).toNat a0.size) true))) else (none)) else (none)) else (annuitantref36_parse.j1 kj6 a0 a1 a2 a3 a4 (ji14) (a0.extract ((ji14) : Int).toNat a0.size) true)) else (none)) else (annuitantref36_parse.j1 kj6 a0 a1 a2 a3 a4 (ji14) (a0.extract ((ji14) : Int).toNat a0.size) true)) = some (r1, r2) := H; have A23 := Aside0.mk A230; clear A230
             by_cases c24 : t280 = true
             ·
              subst c24
              have H1 : (if 12 < ((a0.extract ((ji14) : Int).toNat a0.size).size : Int) then (if (bt (a0.extract ((ji14) : Int).toNat a0.size) 12) = 32 then (if 13 ≤ 21 then (if 21 ≤ ((a0.extract ((ji14) : Int).toNat a0.size).size : Int) then ((annuitantref36_digits.f kj6 ((a0.extract ((ji14) : Int).toNat a0.size).extract 13 21)).bind fun t281 => (if t281 = true then (if 21 < ((a0.extract ((ji14) : Int).toNat a0.size).size : Int) then (annuitantref36_parse.j1 kj6 a0 a1 a2 a3 a4 (ji14) (a0.extract ((ji14) : Int).toNat a0.size) ((bt (a0.extract ((ji14) : Int).toNat a0.size) 21) != 10)) else (none)) else (annuitantref36_parse.j1 kj6 a0 a1 a2 a3 a4 (ji14) (a0.extract ((ji14) : Int).toNat a0.size) true))) else (none)) else (none)) else (annuitantref36_parse.j1 kj6 a0 a1 a2 a3 a4 (ji14) (a0.extract ((ji14) : Int).toNat a0.size) true)) else (none)) = some (r1, r2) := by rw [if_pos rfl] at H; exact H
              clear H; have H := H1; clear H1
              by_cases c25 : 12 < ((a0.extract ((ji14) : Int).toNat a0.size).size : Int)
              ·
               rw [if_pos c25] at H
               have c25b0 : decide (12 < ((a0.extract ((ji14) : Int).toNat a0.size).size : Int)) = true := decide_eq_true c25
               have c25b6 : 12 < a0.size - ji14.toNat := by have e_ : (a0.extract ((ji14) : Int).toNat a0.size).size = a0.size - ji14.toNat := (by rw [ByteArray.size_extract]; omega); omega
               have c25b7 : decide (12 < a0.size - ji14.toNat) = true := decide_eq_true c25b6
               have c25b8 : (12 : Int) < ((a0.size - ji14.toNat : Nat) : Int) := by omega
               have c25b1 : decide (12 < (a0.extract ((ji14) : Int).toNat a0.size).size) = true := decide_eq_true (by omega); clear c25
               by_cases c27 : (bt (a0.extract ((ji14) : Int).toNat a0.size) 12) = 32
               ·
                rw [if_pos c27] at H
                have c27b0 : ((bt (a0.extract ((ji14) : Int).toNat a0.size) 12) == 32) = true := beq_iff_eq.mpr c27; have c27b1 : ((bt (a0.extract ((ji14) : Int).toNat a0.size) 12) != 32) = false := bne_eq_false_iff_eq.mpr c27; clear c27
                by_cases c28 : 13 ≤ 21
                ·
                 rw [if_pos c28] at H
                 have c28b0 := eq_true c28; have c28b1 : decide (13 ≤ 21) = true := decide_eq_true c28; clear c28
                 by_cases c29 : 21 ≤ ((a0.extract ((ji14) : Int).toNat a0.size).size : Int)
                 ·
                  rw [if_pos c29] at H
                  have c29b0 := eq_true c29; have c29b1 : decide (21 ≤ ((a0.extract ((ji14) : Int).toNat a0.size).size : Int)) = true := decide_eq_true c29
                  have c29b6 : 21 ≤ a0.size - ji14.toNat := by have e_ : (a0.extract ((ji14) : Int).toNat a0.size).size = a0.size - ji14.toNat := (by rw [ByteArray.size_extract]; omega); omega
                  have c29b7 : decide (21 ≤ a0.size - ji14.toNat) = true := decide_eq_true c29b6
                  have c29b8 : (21 : Int) ≤ ((a0.size - ji14.toNat : Nat) : Int) := by omega
                  clear c29; replace H := Option.bind_eq_some_iff.mp H; obtain ⟨t281, A300, H⟩ := H; replace H : (if t281 = true then (if 21 < ((a0.extract ((ji14) : Int).toNat a0.size).size : Int) then (annuitantref36_parse.j1 kj6 a0 a1 a2 a3 a4 (ji14) (a0.extract ((ji14) : Int).toNat a0.size) ((bt (a0.extract ((ji14) : Int).toNat a0.size) 21) != 10)) else (none)) else (annuitantref36_parse.j1 kj6 a0 a1 a2 a3 a4 (ji14) (a0.extract ((ji14) : Int).toNat a0.size) true)) = some (r1, r2) := H; have A30 := Aside0.mk A300; clear A300
                  by_cases c31 : t281 = true
                  ·
                   subst c31
                   have H1 : (if 21 < ((a0.extract ((ji14) : Int).toNat a0.size).size : Int) then (annuitantref36_parse.j1 kj6 a0 a1 a2 a3 a4 (ji14) (a0.extract ((ji14) : Int).toNat a0.size) ((bt (a0.extract ((ji14) : Int).toNat a0.size) 21) != 10)) else (none)) = some (r1, r2) := by rw [if_pos rfl] at H; exact H
                   clear H; have H := H1; clear H1
                   by_cases c32 : 21 < ((a0.extract ((ji14) : Int).toNat a0.size).size : Int)
                   ·
                    rw [if_pos c32] at H
                    have c32b0 : decide (21 < ((a0.extract ((ji14) : Int).toNat a0.size).size : Int)) = true := decide_eq_true c32
                    have c32b6 : 21 < a0.size - ji14.toNat := by have e_ : (a0.extract ((ji14) : Int).toNat a0.size).size = a0.size - ji14.toNat := (by rw [ByteArray.size_extract]; omega); omega
                    have c32b7 : decide (21 < a0.size - ji14.toNat) = true := decide_eq_true c32b6
                    have c32b8 : (21 : Int) < ((a0.size - ji14.toNat : Nat) : Int) := by omega
                    have c32b1 : decide (21 < (a0.extract ((ji14) : Int).toNat a0.size).size) = true := decide_eq_true (by omega); clear c32; have H' := Aside0.mk H; clear H
                    go_wp2_with (first | (go_at_call 69; (with_reducible refine (annuitantref36_digits.calls kj6 ((a0.extract ((ji14) : Int).toNat a0.size).extract 4 12) true _ A23.out).mono ?_); rintro e w' ⟨rfl, ⟨nd, rfl⟩⟩; have p26 : 0 ≤ (12 : Int) := (by omega); have q26 : 12 < (a0.extract ((ji14) : Int).toNat a0.size).size := (by have : (12 : Int) < ((a0.extract ((ji14) : Int).toNat a0.size).size : Int) := zD; omega); have hx26 : ∀ h : 12 < (a0.extract ((ji14) : Int).toNat a0.size).size, (((a0.extract ((ji14) : Int).toNat a0.size)[12]'h).toNat : Int) = bt (a0.extract ((ji14) : Int).toNat a0.size) 12 := bt_at (a0.extract ((ji14) : Int).toNat a0.size) 12; clear p26; have qi26 : (12 < ((a0.extract ((ji14) : Int).toNat a0.size).size : Int)) = True := eq_true (zD); replace q26 := eq_true q26) | (go_at_call 69; (with_reducible refine (annuitantref36_digits.calls kj6 ((a0.extract ((ji14) : Int).toNat a0.size).extract 13 21) true _ A30.out).mono ?_); rintro e w' ⟨rfl, ⟨nd, rfl⟩⟩; have p33 : 0 ≤ (21 : Int) := (by omega); have q33 : 21 < (a0.extract ((ji14) : Int).toNat a0.size).size := (by have : (21 : Int) < ((a0.extract ((ji14) : Int).toNat a0.size).size : Int) := zD; omega); have hx33 : ∀ h : 21 < (a0.extract ((ji14) : Int).toNat a0.size).size, (((a0.extract ((ji14) : Int).toNat a0.size)[21]'h).toNat : Int) = bt (a0.extract ((ji14) : Int).toNat a0.size) 21 := bt_at (a0.extract ((ji14) : Int).toNat a0.size) 21; clear p33; have qi33 : (21 < ((a0.extract ((ji14) : Int).toNat a0.size).size : Int)) = True := eq_true (zD); replace q33 := eq_true q33))
                    subst hji14
                    go_meet
                    case rel => exact ⟨_, (((bt (a0.extract (wrap64 ((a0.size : Int) - 22)).toNat a0.size) 21) != 10)), (by first | rfl | (simp; done) | (simp only [← hji14] <;> (first | rfl | simp)) | (simp [*]; done)), H', ⟨by have := HJ6.out; first | omega | exact Nat.le_refl _⟩, ⟨zB⟩⟩
                   ·
                    rw [if_neg c32] at H
                    exact absurd H (by simp)
                  ·
                   replace c31 := Bool.eq_false_iff.mpr c31; subst c31
                   have H1 : (annuitantref36_parse.j1 kj6 a0 a1 a2 a3 a4 (ji14) (a0.extract ((ji14) : Int).toNat a0.size) true) = some (r1, r2) := by rw [if_neg (show ¬ (false = true) by decide)] at H; exact H
                   clear H; have H := H1; clear H1; have H' := Aside0.mk H; clear H
                   go_wp2_with (first | (go_at_call 69; (with_reducible refine (annuitantref36_digits.calls kj6 ((a0.extract ((ji14) : Int).toNat a0.size).extract 4 12) true _ A23.out).mono ?_); rintro e w' ⟨rfl, ⟨nd, rfl⟩⟩; have p26 : 0 ≤ (12 : Int) := (by omega); have q26 : 12 < (a0.extract ((ji14) : Int).toNat a0.size).size := (by have : (12 : Int) < ((a0.extract ((ji14) : Int).toNat a0.size).size : Int) := zD; omega); have hx26 : ∀ h : 12 < (a0.extract ((ji14) : Int).toNat a0.size).size, (((a0.extract ((ji14) : Int).toNat a0.size)[12]'h).toNat : Int) = bt (a0.extract ((ji14) : Int).toNat a0.size) 12 := bt_at (a0.extract ((ji14) : Int).toNat a0.size) 12; clear p26; have qi26 : (12 < ((a0.extract ((ji14) : Int).toNat a0.size).size : Int)) = True := eq_true (zD); replace q26 := eq_true q26) | (go_at_call 69; (with_reducible refine (annuitantref36_digits.calls kj6 ((a0.extract ((ji14) : Int).toNat a0.size).extract 13 21) false _ A30.out).mono ?_); rintro e w' ⟨rfl, ⟨nd, rfl⟩⟩))
                   subst hji14
                   go_meet
                   case rel => exact ⟨_, (true), (by first | rfl | (simp; done) | (simp [*]; done)), H', ⟨by have := HJ6.out; first | omega | exact Nat.le_refl _⟩, ⟨zB⟩⟩
                 ·
                  rw [if_neg c29] at H
                  exact absurd H (by simp)
                ·
                 rw [if_neg c28] at H
                 exact absurd H (by simp)
               ·
                rw [if_neg c27] at H
                have c27b0 : ((bt (a0.extract ((ji14) : Int).toNat a0.size) 12) == 32) = false := beq_eq_false_iff_ne.mpr c27; have c27b1 : ((bt (a0.extract ((ji14) : Int).toNat a0.size) 12) != 32) = true := bne_iff_ne.mpr c27; have H' := Aside0.mk H; clear H
                go_wp2_with (first | (go_at_call 69; (with_reducible refine (annuitantref36_digits.calls kj6 ((a0.extract ((ji14) : Int).toNat a0.size).extract 4 12) true _ A23.out).mono ?_); rintro e w' ⟨rfl, ⟨nd, rfl⟩⟩; have p26 : 0 ≤ (12 : Int) := (by omega); have q26 : 12 < (a0.extract ((ji14) : Int).toNat a0.size).size := (by have : (12 : Int) < ((a0.extract ((ji14) : Int).toNat a0.size).size : Int) := zD; omega); have hx26 : ∀ h : 12 < (a0.extract ((ji14) : Int).toNat a0.size).size, (((a0.extract ((ji14) : Int).toNat a0.size)[12]'h).toNat : Int) = bt (a0.extract ((ji14) : Int).toNat a0.size) 12 := bt_at (a0.extract ((ji14) : Int).toNat a0.size) 12; clear p26; have qi26 : (12 < ((a0.extract ((ji14) : Int).toNat a0.size).size : Int)) = True := eq_true (zD); replace q26 := eq_true q26))
                subst hji14
                go_meet
                case rel => exact ⟨_, (true), (by first | rfl | (simp; done) | (simp [*]; done)), H', ⟨by have := HJ6.out; first | omega | exact Nat.le_refl _⟩, ⟨zB⟩⟩
              ·
               rw [if_neg c25] at H
               exact absurd H (by simp)
             ·
              replace c24 := Bool.eq_false_iff.mpr c24; subst c24
              have H1 : (annuitantref36_parse.j1 kj6 a0 a1 a2 a3 a4 (ji14) (a0.extract ((ji14) : Int).toNat a0.size) true) = some (r1, r2) := by rw [if_neg (show ¬ (false = true) by decide)] at H; exact H
              clear H; have H := H1; clear H1; have H' := Aside0.mk H; clear H
              go_wp2_with (first | (go_at_call 69; (with_reducible refine (annuitantref36_digits.calls kj6 ((a0.extract ((ji14) : Int).toNat a0.size).extract 4 12) false _ A23.out).mono ?_); rintro e w' ⟨rfl, ⟨nd, rfl⟩⟩))
              subst hji14
              go_meet
              case rel => exact ⟨_, (true), (by first | rfl | (simp; done) | (simp [*]; done)), H', ⟨by have := HJ6.out; first | omega | exact Nat.le_refl _⟩, ⟨zB⟩⟩
            ·
             rw [if_neg c22] at H
             exact absurd H (by simp)
           ·
            rw [if_neg c21] at H
            exact absurd H (by simp)
          ·
           rw [if_neg c20] at H
           have c20b0 : (((a0.extract ((ji14) : Int).toNat a0.size).extract 0 4).toList == ([69, 78, 68, 32] : List UInt8)) = false := beq_eq_false_iff_ne.mpr c20; have c20b1 : (((a0.extract ((ji14) : Int).toNat a0.size).extract 0 4).toList != ([69, 78, 68, 32] : List UInt8)) = true := bne_iff_ne.mpr c20
           (first | rw [c20b0] | (simp only [i64_w, i32_w]; rw [c20b0]) | skip)
           have H' := Aside0.mk H; clear H
           go_wp2
           go_meet
           case rel => exact ⟨_, (true), (by first | rfl | (simp; done) | (simp [*]; done)), H', ⟨by have := HJ6.out; first | omega | exact Nat.le_refl _⟩, ⟨zB⟩⟩
         ·
          rw [if_neg c19] at H
          exact absurd H (by simp)
        ·
         rw [if_neg c18] at H
         exact absurd H (by simp)
       case rest =>
        clear HC17
        try clear c1
        try clear p1
        try clear q1
        try clear hx1
        try clear c2
        try clear p2
        try clear q2
        try clear hx2
        try clear qi2
        try clear c3
        try clear p3
        try clear q3
        try clear hx3
        try clear qi3
        try clear c5
        try clear c6
        try clear c6b0
        try clear c6b1
        try clear p6
        try clear c8
        try clear c8b0
        try clear c10
        try clear c10b0
        try clear c11
        try clear c11b0
        try clear p12
        try clear q12
        try clear hx12
        try clear c13
        try clear c15
        try clear c15b0
        try clear c15b1
        try clear c16
        try clear c16b0
        try clear c16b1
        try clear c18
        try clear c18b0
        try clear c18b1
        try clear c19
        try clear c19b0
        try clear c19b1
        try clear c20
        try clear c20b0
        try clear c20b1
        try clear c21
        try clear c21b0
        try clear c21b1
        try clear c22
        try clear c22b0
        try clear c22b1
        try clear c24
        try clear c25
        try clear c25b0
        try clear c25b1
        try clear p26
        try clear q26
        try clear hx26
        try clear qi26
        try clear c27
        try clear c27b0
        try clear c27b1
        try clear c28
        try clear c28b0
        try clear c28b1
        try clear c29
        try clear c29b0
        try clear c29b1
        try clear c31
        try clear c32
        try clear c32b0
        try clear c32b1
        try clear p33
        try clear q33
        try clear hx33
        try clear qi33
        try clear p1
        try clear p12
        try clear p2
        try clear p26
        try clear p33
        try clear p6
        try clear q1
        try clear q12
        try clear q26
        try clear q33
        obtain ⟨kq, x63_16, rfl, HA, HJ16, HB⟩ := hcut
        cases kq with
        | zero => exact absurd HA.out (by simp [annuitantref36_parse.j1])
        | succ kj16 =>
         have H := HA.out; clear HA
         simp only [annuitantref36_parse.j1] at H
         by_cases c34 : x63_16 = true
         ·
          subst c34
          have H1 : (some (([] : List (List Int)), 360)) = some (r1, r2) := by rw [if_pos rfl] at H; exact H
          clear H; have H := H1; clear H1
          simp only [Option.some.injEq, Prod.mk.injEq] at H
          obtain ⟨rfl, rfl⟩ := H
          go_wp2
          go_ret2
          exact ⟨_, by first | rfl | (simp [errW_none, errW_some] <;> rfl) | (simp only [← hji14]; first | rfl | (simp [errW_none, errW_some] <;> rfl)) | (simp [*, errW_none, errW_some] <;> rfl), by first | exact Kd.S_nil _ _ _ _ _ | exact Kd.N_nil _ _ _ _ _ | exact Kd.V_nil _ _ _ _ _ | exact Kd.Q_nil _ _ _ _ _ | exact Kd.R_nil _ _ _ _ _, zB⟩
         ·
          replace c34 := Bool.eq_false_iff.mpr c34; subst c34
          have H1 : (if 0 ≤ (wrap64 ((ji14) - 1)) then (if (wrap64 ((ji14) - 1)) ≤ (a0.size : Int) then ((annuitantref36_pieces.f kj16 (a0.extract 0 ((wrap64 ((ji14) - 1)) : Int).toNat) 10).bind fun t282 => (annuitantref36_parse.l0 kj16 a0 a1 a2 a3 a4 (ji14) (a0.extract ((ji14) : Int).toNat a0.size) t282 ([] : List (List Int)) 0)) else (none)) else (none)) = some (r1, r2) := by rw [if_neg (show ¬ (false = true) by decide)] at H; exact H
          clear H; have H := H1; clear H1
          obtain ⟨ji35, hji35⟩ : ∃ j_ : Int, (wrap64 ((ji14) - 1)) = j_ := ⟨_, rfl⟩
          replace H : (if 0 ≤ (ji35) then (if (ji35) ≤ (a0.size : Int) then ((annuitantref36_pieces.f kj16 (a0.extract 0 ((ji35) : Int).toNat) 10).bind fun t282 => (annuitantref36_parse.l0 kj16 a0 a1 a2 a3 a4 (ji14) (a0.extract ((ji14) : Int).toNat a0.size) t282 ([] : List (List Int)) 0)) else (none)) else (none)) = some (r1, r2) := by first | (rw [hji35] at H; exact H) | (simp only [hji35] at H ⊢; exact H)
          have hji35w : (IntKind.i64.wrap ((ji14) - 1)) = ji35 := (i64_w _).trans hji35
          by_cases c36 : 0 ≤ (ji35)
          ·
           rw [if_pos c36] at H
           have c36b0 := eq_true c36; have c36b1 : decide (0 ≤ (ji35)) = true := decide_eq_true c36; clear c36
           by_cases c37 : (ji35) ≤ (a0.size : Int)
           ·
            rw [if_pos c37] at H
            have c37b0 := eq_true c37; have c37b1 : decide ((ji35) ≤ (a0.size : Int)) = true := decide_eq_true c37; clear c37; replace H := Option.bind_eq_some_iff.mp H; obtain ⟨t282, A380, H⟩ := H; replace H : (annuitantref36_parse.l0 kj16 a0 a1 a2 a3 a4 (ji14) (a0.extract ((ji14) : Int).toNat a0.size) t282 ([] : List (List Int)) 0) = some (r1, r2) := H; have A38 := Aside0.mk A380; clear A380; have H' := Aside0.mk H; clear H
            go_wp2_with (first | ((with_reducible refine gate_callee (f := 70) rfl ?_); refine goesL_ (some 68) rfl rfl Tryz.func70 (by kernel_rfl) rfl #[.string (a0.extract 0 ((ji35) : Int).toNat), .int .u8 10] rfl (by (try simp only [List.map_toArray, List.map_cons, List.map_nil]); first | done | (simp only [hji35]; rfl) | rfl | (simp only [List.length_drop, List.length_take]; rfl)) ?_; (with_reducible refine (annuitantref36_pieces.calls kj16 (a0.extract 0 ((ji35) : Int).toNat) 10 t282 _ A38.out).mono ?_); rintro e w39 ⟨v283, rfl, ho0, hb⟩; refine ⟨_, rfl, ?_⟩; have HO284 := Aside0.mk (Kd.R_lower ho0 (below_size zB)); replace HB := zBs hb; (try clear hb); (try clear hb2); (try clear hk); (try clear hi); (try clear ho0)))
            go_loopg [15, 16] kj16 (fun kq v15 v16 w' => ∃ (x15_3 : List (List Int)) (x16_3 : Int), v16 = .int .i64 x16_3 ∧ Aside0 (annuitantref36_parse.l0 kq a0 a1 a2 a3 a4 (ji14) (a0.extract ((ji14) : Int).toNat a0.size) t282 x15_3 x16_3 = some (r1, r2)) ∧ Aside0 (kq ≤ kj16) ∧ Aside0 (Kd.R Kd.string 9 w' w.heap.size (fun _ => True) v283 t282) ∧ Aside0 (Kd.S (Kd.slice 3 (Kd.int .i64)) 44 w' w.heap.size (fun _ => True) v15 x15_3) ∧ Aside0 (Below w.heap.size w w'))
            case atStart => exact ⟨(([] : List (List Int))), (0), (by first | rfl | (simp; done) | (simp [*]; done)), H', ⟨Nat.le_refl _⟩, ⟨zR HO284⟩, ⟨by first | exact Kd.S_nil _ _ _ _ _ | exact Kd.N_nil _ _ _ _ _ | exact Kd.V_nil _ _ _ _ _ | exact Kd.Q_nil _ _ _ _ _ | exact Kd.R_nil _ _ _ _ _⟩, ⟨zB⟩⟩
            case round =>
             clear H'
             try clear c1
             try clear p1
             try clear q1
             try clear hx1
             try clear c2
             try clear p2
             try clear q2
             try clear hx2
             try clear qi2
             try clear c3
             try clear p3
             try clear q3
             try clear hx3
             try clear qi3
             try clear c5
             try clear c6
             try clear c6b0
             try clear c6b1
             try clear p6
             try clear c7
             try clear c8
             try clear c8b0
             try clear c10
             try clear c10b0
             try clear c11
             try clear c11b0
             try clear p12
             try clear q12
             try clear hx12
             try clear c13
             try clear c15
             try clear c15b0
             try clear c15b1
             try clear c16
             try clear c16b0
             try clear c16b1
             try clear c18
             try clear c18b0
             try clear c18b1
             try clear c19
             try clear c19b0
             try clear c19b1
             try clear c20
             try clear c20b0
             try clear c20b1
             try clear c21
             try clear c21b0
             try clear c21b1
             try clear c22
             try clear c22b0
             try clear c22b1
             try clear c24
             try clear c25
             try clear c25b0
             try clear c25b1
             try clear p26
             try clear q26
             try clear hx26
             try clear qi26
             try clear c27
             try clear c27b0
             try clear c27b1
             try clear c28
             try clear c28b0
             try clear c28b1
             try clear c29
             try clear c29b0
             try clear c29b1
             try clear c31
             try clear c32
             try clear c32b0
             try clear c32b1
             try clear p33
             try clear q33
             try clear hx33
             try clear qi33
             try clear c34
             try clear c36
             try clear c36b0
             try clear c36b1
             try clear c37
             try clear c37b0
             try clear c37b1
             try clear p1
             try clear p12
             try clear p2
             try clear p26
             try clear p3
             try clear p33
             try clear p6
             try clear q1
             try clear q12
             try clear q2
             try clear q26
             try clear q3
             try clear q33
             obtain ⟨x15_3, x16_3, rfl, HA, HK3, HO_14, HO_15, HB⟩ := hrel
             cases gk with
             | zero => exact absurd HA.out (by simp [annuitantref36_parse.l0])
             | succ k3 =>
              have H := HA.out; clear HA
              simp only [annuitantref36_parse.l0] at H
              by_cases c40 : x16_3 < (t282.length : Int)
              ·
               rw [if_pos c40] at H
               have c40b0 : decide (x16_3 < (t282.length : Int)) = true := decide_eq_true c40; clear c40
               by_cases c41 : x16_3 = 0
               ·
                rw [if_pos c41] at H
                have c41b0 : (x16_3 == 0) = true := beq_iff_eq.mpr c41; have c41b1 : (x16_3 != 0) = false := bne_eq_false_iff_eq.mpr c41; clear c41
                by_cases c42 : 0 ≤ x16_3
                ·
                 rw [if_pos c42] at H
                 have c42b0 : decide (0 ≤ x16_3) = true := decide_eq_true c42; clear c42; replace H := Option.bind_eq_some_iff.mp H; obtain ⟨⟨t287, t288⟩, A430, H⟩ := H; replace H : (if t288 = true then (if x15_3.length < 5864062014805 then (annuitantref36_parse.l0 k3 a0 a1 a2 a3 a4 (ji14) (a0.extract ((ji14) : Int).toNat a0.size) t282 (x15_3 ++ [t287]) (wrap64 (x16_3 + 1))) else (none)) else (some (([] : List (List Int)), 360))) = some (r1, r2) := H; have A43 := Aside0.mk A430; clear A430
                 by_cases c44 : t288 = true
                 ·
                  subst c44
                  have H1 : (if x15_3.length < 5864062014805 then (annuitantref36_parse.l0 k3 a0 a1 a2 a3 a4 (ji14) (a0.extract ((ji14) : Int).toNat a0.size) t282 (x15_3 ++ [t287]) (wrap64 (x16_3 + 1))) else (none)) = some (r1, r2) := by rw [if_pos rfl] at H; exact H
                  clear H; have H := H1; clear H1
                  by_cases c45 : x15_3.length < 5864062014805
                  ·
                   rw [if_pos c45] at H
                   have LMc45 := Aside0.mk c45; clear c45
                   obtain ⟨y291, hy291⟩ : ∃ y_ : List (List Int), y_ = (x15_3 ++ [t287]) := ⟨_, rfl⟩
                   replace H : (annuitantref36_parse.l0 k3 a0 a1 a2 a3 a4 (ji14) (a0.extract ((ji14) : Int).toNat a0.size) t282 y291 (wrap64 (x16_3 + 1))) = some (r1, r2) := by first | (rw [hy291]; with_reducible exact H) | (have H2_ := (Option.bind_some _ _).symm.trans H; rw [hy291]; with_reducible exact H2_) | (have H2_ := (Option.bind_some _ _).symm.trans H; with_reducible exact H2_) | with_reducible exact H | (rw [hy291]; exact H) | exact H
                   have Ny291 := Aside0.mk hy291; clear hy291; have H' := Aside0.mk H; clear H; obtain ⟨Ao46, co46, eo46⟩ := Kd.R_slice HO_14.out; subst eo46; have p286 : 0 ≤ (x16_3 : Int) := zD; have q286 : x16_3 < (t282.length : Int) := zD; obtain ⟨ad286, e286, hx286_0⟩ := Kd.at_string (Kd.R_reads' HO_14.out).2.2 x16_3 p286 q286
                   cases e286
                   replace p286 := eq_true p286; replace q286 := eq_true q286
                   go_wp2_with (first | ((with_reducible refine gate_callee (f := 71) rfl ?_); refine goesL_ (some 88) rfl rfl Tryz.func71 (by kernel_rfl) rfl #[.string (rdOf ByteArray.empty t282 x16_3), .string a1, .int .i64 a2] rfl (by (try simp only [List.map_toArray, List.map_cons, List.map_nil]); try rfl) ?_; (with_reducible refine (annuitantref36_numbers.calls k3 (rdOf ByteArray.empty t282 x16_3) a1 a2 t287 true _ A43.out).mono ?_); rintro e w47 ⟨v289, rfl, ho0, hb⟩; refine ⟨_, rfl, ?_⟩; replace HO_14 := Aside0.mk (Kd.R_below (zR HO_14) hb); replace HO_15 := Aside0.mk (Kd.S_elder' (zS HO_15) (Kd.R_base ho0) hb); have HO290 := Aside0.mk (Kd.R_lower ho0 (below_size zB)); replace HB := zBs hb; (try clear hb); (try clear hb2); (try clear hk); (try clear hi); (try clear ho0); obtain ⟨Ao49, co49, eo49⟩ := Kd.R_slice HO290.out; subst eo49) | ((with_reducible refine gate_builtin (b := .append) (xs := #[.tmp 93, .tmp 95]) rfl ?_); at_builtin; refine Kd.S_append (Kd.slice 3 (Kd.int .i64)) (w0 := w) w.heap.size rfl (.tmp 93) (.tmp 95) 95 44 (.slice none 0 0) 24 rfl Tryz.underlying95 info44 rfl (by decide) (by omega) u15 x15_3 t287 [.slice Ao49 t287.length co49] (fun _ => True) (fun k_ => some k_ = (.slice Ao49 t287.length co49 : Value).ownBlock) rfl rfl ?aP (fun k_ hk_ => ((Kd.R_mono (ok' := fun k_ => ((fun _ => True)) k_ ∧ some k_ ≠ (u15 : Value).ownBlock) (Kd.R_apart' (HO290.out) (Kd.S_typed HO_15.out) (by decide)) (fun k_ hk => ⟨trivial, hk.2⟩))).1 k_ hk_.symm) ?aF ?aO ?aB ?aS ?aL ?_; (case aP => exact Kd.M_row (Kd.R_mono (Kd.R_tight rfl (Kd.R_mono (ok' := fun k_ => ((fun _ => True)) k_ ∧ some k_ ≠ (u15 : Value).ownBlock) (Kd.R_apart' (HO290.out) (Kd.S_typed HO_15.out) (by decide)) (fun k_ hk => ⟨trivial, hk.2⟩))) (fun _ h_ => h_))); (case aB => exact zB); (case aF => exact (fun _ _ => trivial)); (case aO => exact (by (with_reducible repeat (first | apply Kd.S_alloc | apply Kd.S_drewN | apply Kd.S_drew)); exact Kd.S_mono HO_15.out (fun k_ hk => ⟨trivial, fun e_ => hk.2 e_⟩))); (case aS => exact (below_size zB)); (case aL => have := LMc45.out; omega); intro v292 w48 ho hb hg hat; rw [← Ny291.out] at ho; replace HO_14 := Aside0.mk (Kd.R_over' (zR HO_14) (Kd.S_typed (zS HO_15)) (by decide) hg); replace HB := Aside0.mk (hb); have HO293 := Aside0.mk (ho); clear HO_15 HO290; clear ho hb hg hat))
                   go_roundg k3
                   case measure => have := HJ6.out; have := HJ16.out; have := HK3.out; omega
                   case rel => exact ⟨(y291), (wrap64 (x16_3 + 1)), (by first | rfl | (simp; done) | (simp [*]; done)), H', ⟨by have := HJ6.out; have := HJ16.out; have := HK3.out; omega⟩, ⟨zR HO_14⟩, ⟨zS HO293⟩, ⟨zB⟩⟩
                  ·
                   rw [if_neg c45] at H
                   exact absurd H (by simp)
                 ·
                  replace c44 := Bool.eq_false_iff.mpr c44; subst c44
                  have H1 : (some (([] : List (List Int)), 360)) = some (r1, r2) := by rw [if_neg (show ¬ (false = true) by decide)] at H; exact H
                  clear H; have H := H1; clear H1
                  simp only [Option.some.injEq, Prod.mk.injEq] at H
                  obtain ⟨rfl, rfl⟩ := H; obtain ⟨Ao50, co50, eo50⟩ := Kd.R_slice HO_14.out; subst eo50; have p286 : 0 ≤ (x16_3 : Int) := zD; have q286 : x16_3 < (t282.length : Int) := zD; obtain ⟨ad286, e286, hx286_0⟩ := Kd.at_string (Kd.R_reads' HO_14.out).2.2 x16_3 p286 q286
                  cases e286
                  replace p286 := eq_true p286; replace q286 := eq_true q286
                  go_wp2_with (first | ((with_reducible refine gate_callee (f := 71) rfl ?_); refine goesL_ (some 88) rfl rfl Tryz.func71 (by kernel_rfl) rfl #[.string (rdOf ByteArray.empty t282 x16_3), .string a1, .int .i64 a2] rfl (by (try simp only [List.map_toArray, List.map_cons, List.map_nil]); try rfl) ?_; (with_reducible refine (annuitantref36_numbers.calls k3 (rdOf ByteArray.empty t282 x16_3) a1 a2 t287 false _ A43.out).mono ?_); rintro e w51 ⟨v289, rfl, ho0, hb⟩; refine ⟨_, rfl, ?_⟩; replace HO_14 := Aside0.mk (Kd.R_below (zR HO_14) hb); replace HO_15 := Aside0.mk (Kd.S_elder' (zS HO_15) (Kd.R_base ho0) hb); have HO290 := Aside0.mk (Kd.R_lower ho0 (below_size zB)); replace HB := zBs hb; (try clear hb); (try clear hb2); (try clear hk); (try clear hi); (try clear ho0)))
                  go_ret2
                  exact ⟨_, by first | rfl | (simp [errW_none, errW_some] <;> rfl) | (simp only [← hji14, ← hji35]; first | rfl | (simp [errW_none, errW_some] <;> rfl)) | (simp [*, errW_none, errW_some] <;> rfl), by first | exact Kd.S_nil _ _ _ _ _ | exact Kd.N_nil _ _ _ _ _ | exact Kd.V_nil _ _ _ _ _ | exact Kd.Q_nil _ _ _ _ _ | exact Kd.R_nil _ _ _ _ _, zB⟩
                ·
                 rw [if_neg c42] at H
                 exact absurd H (by simp)
               ·
                rw [if_neg c41] at H
                have c41b0 : (x16_3 == 0) = false := beq_eq_false_iff_ne.mpr c41; have c41b1 : (x16_3 != 0) = true := bne_iff_ne.mpr c41
                by_cases c52 : 0 ≤ x16_3
                ·
                 rw [if_pos c52] at H
                 have c52b0 : decide (0 ≤ x16_3) = true := decide_eq_true c52; clear c52; replace H := Option.bind_eq_some_iff.mp H; obtain ⟨⟨t295, t296⟩, A530, H⟩ := H; replace H : (if t296 = true then (if x15_3.length < 5864062014805 then (annuitantref36_parse.l0 k3 a0 a1 a2 a3 a4 (ji14) (a0.extract ((ji14) : Int).toNat a0.size) t282 (x15_3 ++ [t295]) (wrap64 (x16_3 + 1))) else (none)) else (some (([] : List (List Int)), 360))) = some (r1, r2) := H; have A53 := Aside0.mk A530; clear A530
                 by_cases c54 : t296 = true
                 ·
                  subst c54
                  have H1 : (if x15_3.length < 5864062014805 then (annuitantref36_parse.l0 k3 a0 a1 a2 a3 a4 (ji14) (a0.extract ((ji14) : Int).toNat a0.size) t282 (x15_3 ++ [t295]) (wrap64 (x16_3 + 1))) else (none)) = some (r1, r2) := by rw [if_pos rfl] at H; exact H
                  clear H; have H := H1; clear H1
                  by_cases c55 : x15_3.length < 5864062014805
                  ·
                   rw [if_pos c55] at H
                   have LMc55 := Aside0.mk c55; clear c55
                   obtain ⟨y299, hy299⟩ : ∃ y_ : List (List Int), y_ = (x15_3 ++ [t295]) := ⟨_, rfl⟩
                   replace H : (annuitantref36_parse.l0 k3 a0 a1 a2 a3 a4 (ji14) (a0.extract ((ji14) : Int).toNat a0.size) t282 y299 (wrap64 (x16_3 + 1))) = some (r1, r2) := by first | (rw [hy299]; with_reducible exact H) | (have H2_ := (Option.bind_some _ _).symm.trans H; rw [hy299]; with_reducible exact H2_) | (have H2_ := (Option.bind_some _ _).symm.trans H; with_reducible exact H2_) | with_reducible exact H | (rw [hy299]; exact H) | exact H
                   have Ny299 := Aside0.mk hy299; clear hy299; have H' := Aside0.mk H; clear H; obtain ⟨Ao56, co56, eo56⟩ := Kd.R_slice HO_14.out; subst eo56; have p294 : 0 ≤ (x16_3 : Int) := zD; have q294 : x16_3 < (t282.length : Int) := zD; obtain ⟨ad294, e294, hx294_0⟩ := Kd.at_string (Kd.R_reads' HO_14.out).2.2 x16_3 p294 q294
                   cases e294
                   replace p294 := eq_true p294; replace q294 := eq_true q294
                   go_wp2_with (first | ((with_reducible refine gate_callee (f := 71) rfl ?_); refine goesL_ (some 88) rfl rfl Tryz.func71 (by kernel_rfl) rfl #[.string (rdOf ByteArray.empty t282 x16_3), .string a3, .int .i64 a4] rfl (by (try simp only [List.map_toArray, List.map_cons, List.map_nil]); try rfl) ?_; (with_reducible refine (annuitantref36_numbers.calls k3 (rdOf ByteArray.empty t282 x16_3) a3 a4 t295 true _ A53.out).mono ?_); rintro e w57 ⟨v297, rfl, ho0, hb⟩; refine ⟨_, rfl, ?_⟩; replace HO_14 := Aside0.mk (Kd.R_below (zR HO_14) hb); replace HO_15 := Aside0.mk (Kd.S_elder' (zS HO_15) (Kd.R_base ho0) hb); have HO298 := Aside0.mk (Kd.R_lower ho0 (below_size zB)); replace HB := zBs hb; (try clear hb); (try clear hb2); (try clear hk); (try clear hi); (try clear ho0); obtain ⟨Ao59, co59, eo59⟩ := Kd.R_slice HO298.out; subst eo59) | ((with_reducible refine gate_builtin (b := .append) (xs := #[.tmp 93, .tmp 95]) rfl ?_); at_builtin; refine Kd.S_append (Kd.slice 3 (Kd.int .i64)) (w0 := w) w.heap.size rfl (.tmp 93) (.tmp 95) 95 44 (.slice none 0 0) 24 rfl Tryz.underlying95 info44 rfl (by decide) (by omega) u15 x15_3 t295 [.slice Ao59 t295.length co59] (fun _ => True) (fun k_ => some k_ = (.slice Ao59 t295.length co59 : Value).ownBlock) rfl rfl ?aP (fun k_ hk_ => ((Kd.R_mono (ok' := fun k_ => ((fun _ => True)) k_ ∧ some k_ ≠ (u15 : Value).ownBlock) (Kd.R_apart' (HO298.out) (Kd.S_typed HO_15.out) (by decide)) (fun k_ hk => ⟨trivial, hk.2⟩))).1 k_ hk_.symm) ?aF ?aO ?aB ?aS ?aL ?_; (case aP => exact Kd.M_row (Kd.R_mono (Kd.R_tight rfl (Kd.R_mono (ok' := fun k_ => ((fun _ => True)) k_ ∧ some k_ ≠ (u15 : Value).ownBlock) (Kd.R_apart' (HO298.out) (Kd.S_typed HO_15.out) (by decide)) (fun k_ hk => ⟨trivial, hk.2⟩))) (fun _ h_ => h_))); (case aB => exact zB); (case aF => exact (fun _ _ => trivial)); (case aO => exact (by (with_reducible repeat (first | apply Kd.S_alloc | apply Kd.S_drewN | apply Kd.S_drew)); exact Kd.S_mono HO_15.out (fun k_ hk => ⟨trivial, fun e_ => hk.2 e_⟩))); (case aS => exact (below_size zB)); (case aL => have := LMc55.out; omega); intro v300 w58 ho hb hg hat; rw [← Ny299.out] at ho; replace HO_14 := Aside0.mk (Kd.R_over' (zR HO_14) (Kd.S_typed (zS HO_15)) (by decide) hg); replace HB := Aside0.mk (hb); have HO301 := Aside0.mk (ho); clear HO_15 HO298; clear ho hb hg hat))
                   go_roundg k3
                   case measure => have := HJ6.out; have := HJ16.out; have := HK3.out; omega
                   case rel => exact ⟨(y299), (wrap64 (x16_3 + 1)), (by first | rfl | (simp; done) | (simp [*]; done)), H', ⟨by have := HJ6.out; have := HJ16.out; have := HK3.out; omega⟩, ⟨zR HO_14⟩, ⟨zS HO301⟩, ⟨zB⟩⟩
                  ·
                   rw [if_neg c55] at H
                   exact absurd H (by simp)
                 ·
                  replace c54 := Bool.eq_false_iff.mpr c54; subst c54
                  have H1 : (some (([] : List (List Int)), 360)) = some (r1, r2) := by rw [if_neg (show ¬ (false = true) by decide)] at H; exact H
                  clear H; have H := H1; clear H1
                  simp only [Option.some.injEq, Prod.mk.injEq] at H
                  obtain ⟨rfl, rfl⟩ := H; obtain ⟨Ao60, co60, eo60⟩ := Kd.R_slice HO_14.out; subst eo60; have p294 : 0 ≤ (x16_3 : Int) := zD; have q294 : x16_3 < (t282.length : Int) := zD; obtain ⟨ad294, e294, hx294_0⟩ := Kd.at_string (Kd.R_reads' HO_14.out).2.2 x16_3 p294 q294
                  cases e294
                  replace p294 := eq_true p294; replace q294 := eq_true q294
                  go_wp2_with (first | ((with_reducible refine gate_callee (f := 71) rfl ?_); refine goesL_ (some 88) rfl rfl Tryz.func71 (by kernel_rfl) rfl #[.string (rdOf ByteArray.empty t282 x16_3), .string a3, .int .i64 a4] rfl (by (try simp only [List.map_toArray, List.map_cons, List.map_nil]); try rfl) ?_; (with_reducible refine (annuitantref36_numbers.calls k3 (rdOf ByteArray.empty t282 x16_3) a3 a4 t295 false _ A53.out).mono ?_); rintro e w61 ⟨v297, rfl, ho0, hb⟩; refine ⟨_, rfl, ?_⟩; replace HO_14 := Aside0.mk (Kd.R_below (zR HO_14) hb); replace HO_15 := Aside0.mk (Kd.S_elder' (zS HO_15) (Kd.R_base ho0) hb); have HO298 := Aside0.mk (Kd.R_lower ho0 (below_size zB)); replace HB := zBs hb; (try clear hb); (try clear hb2); (try clear hk); (try clear hi); (try clear ho0)))
                  go_ret2
                  exact ⟨_, by first | rfl | (simp [errW_none, errW_some] <;> rfl) | (simp only [← hji14, ← hji35]; first | rfl | (simp [errW_none, errW_some] <;> rfl)) | (simp [*, errW_none, errW_some] <;> rfl), by first | exact Kd.S_nil _ _ _ _ _ | exact Kd.N_nil _ _ _ _ _ | exact Kd.V_nil _ _ _ _ _ | exact Kd.Q_nil _ _ _ _ _ | exact Kd.R_nil _ _ _ _ _, zB⟩
                ·
                 rw [if_neg c52] at H
                 exact absurd H (by simp)
              ·
               rw [if_neg c40] at H
               have c40b0 : decide (x16_3 < (t282.length : Int)) = false := decide_eq_false c40; clear c40
               by_cases c62 : 0 ≤ (ji14)
               ·
                rw [if_pos c62] at H
                have c62b0 := eq_true c62; have c62b1 : decide (0 ≤ (ji14)) = true := decide_eq_true c62; clear c62
                by_cases c63 : (ji14) ≤ (a0.size : Int)
                ·
                 rw [if_pos c63] at H
                 have c63b0 := eq_true c63; have c63b1 : decide ((ji14) ≤ (a0.size : Int)) = true := decide_eq_true c63; clear c63; replace H := Option.bind_eq_some_iff.mp H; obtain ⟨t285, A640, H⟩ := H; replace H : (if t285.toList = (a0.extract ((ji14) : Int).toNat a0.size).toList then (some (x15_3, 0)) else (some (([] : List (List Int)), 361))) = some (r1, r2) := H; have A64 := Aside0.mk A640; clear A640
                 by_cases c65 : t285.toList = (a0.extract ((ji14) : Int).toNat a0.size).toList
                 ·
                  rw [if_pos c65] at H
                  have c65b0 : (t285.toList == (a0.extract ((ji14) : Int).toNat a0.size).toList) = true := beq_iff_eq.mpr c65; have c65b1 : (t285.toList != (a0.extract ((ji14) : Int).toNat a0.size).toList) = false := bne_eq_false_iff_eq.mpr c65; clear c65
                  simp only [Option.some.injEq, Prod.mk.injEq] at H
                  obtain ⟨rfl, rfl⟩ := H; obtain ⟨Ao66, co66, eo66⟩ := Kd.R_slice HO_14.out; subst eo66
                  go_wp2_with (first | ((with_reducible refine gate_callee (f := 11) rfl ?_); refine goesL_ (some 100) rfl rfl Tryz.func11 (by kernel_rfl) rfl #[.string (a0.extract 0 ((ji14) : Int).toNat)] rfl (by (try simp only [List.map_toArray, List.map_cons, List.map_nil]); first | done | (simp only [hji14]; rfl) | rfl | (simp only [List.length_drop, List.length_take]; rfl)) ?_; (with_reducible refine (annuitantref36_End.calls k3 (a0.extract 0 ((ji14) : Int).toNat) t285 _ A64.out).mono ?_); rintro e w' ⟨rfl, ⟨nd, rfl⟩⟩; refine ⟨_, rfl, ?_⟩))
                  go_ret2
                  exact ⟨_, by first | rfl | (simp [errW_none, errW_some] <;> rfl) | (simp only [← hji14, ← hji35]; first | rfl | (simp [errW_none, errW_some] <;> rfl)) | (simp [*, errW_none, errW_some] <;> rfl), zS HO_15, zB⟩
                 ·
                  rw [if_neg c65] at H
                  have c65b0 : (t285.toList == (a0.extract ((ji14) : Int).toNat a0.size).toList) = false := beq_eq_false_iff_ne.mpr c65; have c65b1 : (t285.toList != (a0.extract ((ji14) : Int).toNat a0.size).toList) = true := bne_iff_ne.mpr c65
                  simp only [Option.some.injEq, Prod.mk.injEq] at H
                  obtain ⟨rfl, rfl⟩ := H; obtain ⟨Ao67, co67, eo67⟩ := Kd.R_slice HO_14.out; subst eo67
                  go_wp2_with (first | ((with_reducible refine gate_callee (f := 11) rfl ?_); refine goesL_ (some 100) rfl rfl Tryz.func11 (by kernel_rfl) rfl #[.string (a0.extract 0 ((ji14) : Int).toNat)] rfl (by (try simp only [List.map_toArray, List.map_cons, List.map_nil]); first | done | (simp only [hji14]; rfl) | rfl | (simp only [List.length_drop, List.length_take]; rfl)) ?_; (with_reducible refine (annuitantref36_End.calls k3 (a0.extract 0 ((ji14) : Int).toNat) t285 _ A64.out).mono ?_); rintro e w' ⟨rfl, ⟨nd, rfl⟩⟩; refine ⟨_, rfl, ?_⟩))
                  go_ret2
                  exact ⟨_, by first | rfl | (simp [errW_none, errW_some] <;> rfl) | (simp only [← hji14, ← hji35]; first | rfl | (simp [errW_none, errW_some] <;> rfl)) | (simp [*, errW_none, errW_some] <;> rfl), by first | exact Kd.S_nil _ _ _ _ _ | exact Kd.N_nil _ _ _ _ _ | exact Kd.V_nil _ _ _ _ _ | exact Kd.Q_nil _ _ _ _ _ | exact Kd.R_nil _ _ _ _ _, zB⟩
                ·
                 rw [if_neg c63] at H
                 exact absurd H (by simp)
               ·
                rw [if_neg c62] at H
                exact absurd H (by simp)
           ·
            rw [if_neg c37] at H
            exact absurd H (by simp)
          ·
           rw [if_neg c36] at H
           exact absurd H (by simp)
      ·
       rw [if_neg c16] at H
       exact absurd H (by simp)
     ·
      rw [if_neg c15] at H
      exact absurd H (by simp)
end Go.Proofs.YtndojpcjhkncgaaGreatDoor.Q
end

section
namespace Go.Proofs.YtndojpcjhkncgaaGreatDoor.Q
open Go.RowKit Go.Proofs.YtndojpcjhkncgaaGreatDoorW.PrintWords Go.Proofs.YtndojpcjhkncgaaGreatDoorW.PrintLast Go.Proofs.YtndojpcjhkncgaaGreatDoorW.PrintMore
attribute [local go_sem] max2_int min2_int max_two min_two max_three min_three max_four min_four   -- for this text's walks alone
set_option linter.unusedVariables false
set_option linter.unusedSimpArgs false
def annuitantref36_Read.l0 : Nat → ByteArray → List (List Int) → Int → Int → Int → List (S47) → Option (Int × Int × (List (S47)) × Int)
 | 0, _, _, _, _, _, _ => none
 | k + 1, x0, x4, x7, x312000, x312001, x312002 => if x7 < (x4.length : Int) then (if 0 ≤ x7 then (if 0 < ((rd_L6 x4 x7).length : Int) then (if 1 < ((rd_L6 x4 x7).length : Int) then (if 2 < ((rd_L6 x4 x7).length : Int) then (if 3 < ((rd_L6 x4 x7).length : Int) then (if 4 < ((rd_L6 x4 x7).length : Int) then (if x312002.length < 3518437208883 then (annuitantref36_Read.l0 k x0 x4 (wrap64 (x7 + 1)) x312000 x312001 (x312002 ++ [(⟨rd (rd_L6 x4 x7) 0, rd (rd_L6 x4 x7) 1, rd (rd_L6 x4 x7) 2, rd (rd_L6 x4 x7) 3, rd (rd_L6 x4 x7) 4⟩ : S47)])) else (none)) else (none)) else (none)) else (none)) else (none)) else (none)) else (none)) else ((annuitantref36_Write.f k x312000 x312001 x312002).bind fun bt321 => (if bt321.2 = 0 then (if bt321.1.toList = x0.toList then (some (x312000, x312001, x312002, 0)) else (some (0, 0, ([] : List (S47)), 362))) else (some (0, 0, ([] : List (S47)), 362))))
def annuitantref36_Read.f (k : Nat) (a0 : ByteArray) : Option (Int × Int × (List (S47)) × Int) := (annuitantref36_parse.f k a0 (⟨#[80, 65, 89]⟩ : ByteArray) 4 (⟨#[111, 114, 100, 101, 114]⟩ : ByteArray) 5).bind fun bt303 => (if bt303.2 = 0 then (if 0 < (bt303.1.length : Int) then (if 0 < ((rd_L6 bt303.1 0).length : Int) then (if 1 < ((rd_L6 bt303.1 0).length : Int) then (annuitantref36_Read.l0 k a0 bt303.1 1 (rd (rd_L6 bt303.1 0) 0) (rd (rd_L6 bt303.1 0) 1) ([] : List (S47))) else (none)) else (none)) else (none)) else (some (0, 0, ([] : List (S47)), bt303.2)))
def annuitantref36_Read.T4 : Bool × List (List Nat × List Nat) := (true, [([], []), ([0], [0]), ([1], [1]), ([2], [2]), ([3], [3]), ([], []), ([5], [5]), ([6], [6]), ([7], [7]), ([8], [8]), ([4, 9], [4, 9]), ([], []), ([11, 10, 0, 1, 2, 3, 4, 5, 6, 7, 8, 9, 10, 11], [10, 11])])
def annuitantref36_Read.B4 : List Nat := [0, 1, 3, 7, 15, 0, 32, 96, 224, 480, 1023, 0, 4095]
theorem annuitantref36_Read.tab4 : rtab .any (opsOf Tryz.f32 4) = annuitantref36_Read.T4 := by kernel_rfl
theorem annuitantref36_Read.bits4 : waitsOk annuitantref36_Read.T4.2 annuitantref36_Read.B4 = true := by kernel_rfl
def annuitantref36_Read.T9 : Bool × List (List Nat × List Nat) := (true, [([], []), ([0], [0]), ([], []), ([2], [2]), ([3], [3]), ([], []), ([5], [5]), ([6], [6]), ([], []), ([8], [8]), ([9], [9]), ([], []), ([11], [11]), ([12], [12]), ([], []), ([14], [14]), ([15], [15]), ([4, 7, 10, 13, 16], [4, 7, 10, 13, 16]), ([17], [17]), ([1, 18], [1, 18]), ([0, 1, 2, 3, 4, 5, 6, 7, 8, 9, 10, 11, 12, 13, 14, 15, 16, 17, 18, 19], []), ([20, 19, 19, 0, 1, 2, 3, 4, 5, 6, 7, 8, 9, 10, 11, 12, 13, 14, 15, 16, 17, 18, 19], [19, 20])])
def annuitantref36_Read.B9 : List Nat := [0, 1, 0, 4, 12, 0, 32, 96, 0, 256, 768, 0, 2048, 6144, 0, 16384, 49152, 131068, 262140, 524287, 1048575, 2097151]
theorem annuitantref36_Read.tab9 : rtab .any (opsOf Tryz.f32 9) = annuitantref36_Read.T9 := by kernel_rfl
theorem annuitantref36_Read.bits9 : waitsOk annuitantref36_Read.T9.2 annuitantref36_Read.B9 = true := by kernel_rfl
abbrev zbjy := true
abbrev zbjn := false
abbrev zbjz0 : Array Bool := #[zbjn,zbjn,zbjn,zbjn,zbjn,zbjn,zbjn,zbjn,zbjn,zbjn,zbjn,zbjn,zbjn]
abbrev zbjz1 : Array Bool := #[zbjy,zbjn,zbjn,zbjn,zbjn,zbjn,zbjn,zbjn,zbjn,zbjn,zbjn,zbjn,zbjn]
abbrev zbjz2 : Array Bool := #[zbjy,zbjy,zbjn,zbjn,zbjn,zbjn,zbjn,zbjn,zbjn,zbjn,zbjn,zbjn,zbjn]
abbrev zbjz3 : Array Bool := #[zbjy,zbjy,zbjn,zbjn,zbjn,zbjy,zbjn,zbjn,zbjn,zbjn,zbjn,zbjn,zbjn]
abbrev zbjz4 : Array Bool := #[zbjy,zbjy,zbjn,zbjn,zbjn,zbjy,zbjy,zbjn,zbjn,zbjn,zbjn,zbjn,zbjn]
abbrev zbjz5 : Array Bool := #[zbjy,zbjy,zbjy,zbjn,zbjn,zbjy,zbjy,zbjn,zbjn,zbjn,zbjn,zbjn,zbjn]
abbrev zbjz6 : Array Bool := #[zbjy,zbjy,zbjy,zbjy,zbjn,zbjy,zbjy,zbjn,zbjn,zbjn,zbjn,zbjn,zbjn]
abbrev zbjz7 : Array Bool := #[zbjy,zbjy,zbjy,zbjy,zbjy,zbjy,zbjy,zbjn,zbjn,zbjn,zbjn,zbjn,zbjn]
abbrev zbjz8 : Array Bool := #[zbjy,zbjy,zbjy,zbjy,zbjy,zbjy,zbjy,zbjy,zbjn,zbjn,zbjn,zbjn,zbjn]
abbrev zbjz9 : Array Bool := #[zbjy,zbjy,zbjy,zbjy,zbjy,zbjy,zbjy,zbjy,zbjy,zbjn,zbjn,zbjn,zbjn]
abbrev zbjz10 : Array Bool := #[zbjy,zbjy,zbjy,zbjy,zbjy,zbjy,zbjy,zbjy,zbjy,zbjy,zbjn,zbjn,zbjn]
abbrev zbjz11 : Array Bool := #[zbjy,zbjy,zbjy,zbjy,zbjy,zbjy,zbjy,zbjy,zbjy,zbjy,zbjy,zbjn,zbjn]
abbrev zbjz12 : Array Bool := #[zbjy,zbjy,zbjy,zbjy,zbjy,zbjy,zbjy,zbjy,zbjy,zbjy,zbjy,zbjy,zbjn]
abbrev zbjz13 : Array Bool := #[zbjy,zbjy,zbjy,zbjy,zbjy,zbjy,zbjy,zbjy,zbjy,zbjy,zbjy,zbjy,zbjy]
abbrev zbjz14 : Array Bool := #[zbjn,zbjn,zbjn,zbjn,zbjn,zbjn,zbjn,zbjn,zbjn,zbjn,zbjn,zbjn,zbjn,zbjn,zbjn,zbjn,zbjn,zbjn,zbjn,zbjn,zbjn,zbjn]
abbrev zbjz15 : Array Bool := #[zbjy,zbjn,zbjn,zbjn,zbjn,zbjn,zbjn,zbjn,zbjn,zbjn,zbjn,zbjn,zbjn,zbjn,zbjn,zbjn,zbjn,zbjn,zbjn,zbjn,zbjn,zbjn]
abbrev zbjz16 : Array Bool := #[zbjy,zbjn,zbjy,zbjn,zbjn,zbjn,zbjn,zbjn,zbjn,zbjn,zbjn,zbjn,zbjn,zbjn,zbjn,zbjn,zbjn,zbjn,zbjn,zbjn,zbjn,zbjn]
abbrev zbjz17 : Array Bool := #[zbjy,zbjn,zbjy,zbjy,zbjn,zbjn,zbjn,zbjn,zbjn,zbjn,zbjn,zbjn,zbjn,zbjn,zbjn,zbjn,zbjn,zbjn,zbjn,zbjn,zbjn,zbjn]
abbrev zbjz18 : Array Bool := #[zbjy,zbjn,zbjy,zbjy,zbjn,zbjy,zbjn,zbjn,zbjn,zbjn,zbjn,zbjn,zbjn,zbjn,zbjn,zbjn,zbjn,zbjn,zbjn,zbjn,zbjn,zbjn]
abbrev zbjz19 : Array Bool := #[zbjy,zbjn,zbjy,zbjy,zbjn,zbjy,zbjy,zbjn,zbjn,zbjn,zbjn,zbjn,zbjn,zbjn,zbjn,zbjn,zbjn,zbjn,zbjn,zbjn,zbjn,zbjn]
abbrev zbjz20 : Array Bool := #[zbjy,zbjn,zbjy,zbjy,zbjn,zbjy,zbjy,zbjn,zbjy,zbjn,zbjn,zbjn,zbjn,zbjn,zbjn,zbjn,zbjn,zbjn,zbjn,zbjn,zbjn,zbjn]
abbrev zbjz21 : Array Bool := #[zbjy,zbjn,zbjy,zbjy,zbjn,zbjy,zbjy,zbjn,zbjy,zbjy,zbjn,zbjn,zbjn,zbjn,zbjn,zbjn,zbjn,zbjn,zbjn,zbjn,zbjn,zbjn]
abbrev zbjz22 : Array Bool := #[zbjy,zbjn,zbjy,zbjy,zbjn,zbjy,zbjy,zbjn,zbjy,zbjy,zbjn,zbjy,zbjn,zbjn,zbjn,zbjn,zbjn,zbjn,zbjn,zbjn,zbjn,zbjn]
abbrev zbjz23 : Array Bool := #[zbjy,zbjn,zbjy,zbjy,zbjn,zbjy,zbjy,zbjn,zbjy,zbjy,zbjn,zbjy,zbjy,zbjn,zbjn,zbjn,zbjn,zbjn,zbjn,zbjn,zbjn,zbjn]
abbrev zbjz24 : Array Bool := #[zbjy,zbjn,zbjy,zbjy,zbjn,zbjy,zbjy,zbjn,zbjy,zbjy,zbjn,zbjy,zbjy,zbjn,zbjy,zbjn,zbjn,zbjn,zbjn,zbjn,zbjn,zbjn]
abbrev zbjz25 : Array Bool := #[zbjy,zbjn,zbjy,zbjy,zbjn,zbjy,zbjy,zbjn,zbjy,zbjy,zbjn,zbjy,zbjy,zbjn,zbjy,zbjy,zbjn,zbjn,zbjn,zbjn,zbjn,zbjn]
abbrev zbjz26 : Array Bool := #[zbjy,zbjy,zbjy,zbjy,zbjn,zbjy,zbjy,zbjn,zbjy,zbjy,zbjn,zbjy,zbjy,zbjn,zbjy,zbjy,zbjn,zbjn,zbjn,zbjn,zbjn,zbjn]
abbrev zbjz27 : Array Bool := #[zbjy,zbjy,zbjy,zbjy,zbjy,zbjy,zbjy,zbjn,zbjy,zbjy,zbjn,zbjy,zbjy,zbjn,zbjy,zbjy,zbjn,zbjn,zbjn,zbjn,zbjn,zbjn]
abbrev zbjz28 : Array Bool := #[zbjy,zbjy,zbjy,zbjy,zbjy,zbjy,zbjy,zbjy,zbjy,zbjy,zbjn,zbjy,zbjy,zbjn,zbjy,zbjy,zbjn,zbjn,zbjn,zbjn,zbjn,zbjn]
abbrev zbjz29 : Array Bool := #[zbjy,zbjy,zbjy,zbjy,zbjy,zbjy,zbjy,zbjy,zbjy,zbjy,zbjy,zbjy,zbjy,zbjn,zbjy,zbjy,zbjn,zbjn,zbjn,zbjn,zbjn,zbjn]
abbrev zbjz30 : Array Bool := #[zbjy,zbjy,zbjy,zbjy,zbjy,zbjy,zbjy,zbjy,zbjy,zbjy,zbjy,zbjy,zbjy,zbjy,zbjy,zbjy,zbjn,zbjn,zbjn,zbjn,zbjn,zbjn]
abbrev zbjz31 : Array Bool := #[zbjy,zbjy,zbjy,zbjy,zbjy,zbjy,zbjy,zbjy,zbjy,zbjy,zbjy,zbjy,zbjy,zbjy,zbjy,zbjy,zbjy,zbjn,zbjn,zbjn,zbjn,zbjn]
abbrev zbjz32 : Array Bool := #[zbjy,zbjy,zbjy,zbjy,zbjy,zbjy,zbjy,zbjy,zbjy,zbjy,zbjy,zbjy,zbjy,zbjy,zbjy,zbjy,zbjy,zbjy,zbjn,zbjn,zbjn,zbjn]
abbrev zbjz33 : Array Bool := #[zbjy,zbjy,zbjy,zbjy,zbjy,zbjy,zbjy,zbjy,zbjy,zbjy,zbjy,zbjy,zbjy,zbjy,zbjy,zbjy,zbjy,zbjy,zbjy,zbjn,zbjn,zbjn]
abbrev zbjz34 : Array Bool := #[zbjy,zbjy,zbjy,zbjy,zbjy,zbjy,zbjy,zbjy,zbjy,zbjy,zbjy,zbjy,zbjy,zbjy,zbjy,zbjy,zbjy,zbjy,zbjy,zbjy,zbjn,zbjn]
abbrev zbjz35 : Array Bool := #[zbjy,zbjy,zbjy,zbjy,zbjy,zbjy,zbjy,zbjy,zbjy,zbjy,zbjy,zbjy,zbjy,zbjy,zbjy,zbjy,zbjy,zbjy,zbjy,zbjy,zbjy,zbjn]
abbrev zbjz36 : Array Bool := #[zbjy,zbjy,zbjy,zbjy,zbjy,zbjy,zbjy,zbjy,zbjy,zbjy,zbjy,zbjy,zbjy,zbjy,zbjy,zbjy,zbjy,zbjy,zbjy,zbjy,zbjy,zbjy]
theorem zbjq {α β γ : Type _} {A : α → β → γ → Prop} : ∀ a b c, A a b c → A a b c := fun _ _ _ h => h
theorem zbjp {P : Program} {md : Region.Mode} {ops : Array Oper} {Q : Exit → Act → World → Prop} {S : World → Prop} {ds : List Nat} {oi : Oper} {fuel : Nat} {l : Array Bool} {a : Act} {w : World} {v : Value} {a' : Act} (i : Nat) (N : Option Tmp) (l' : Array Bool) (hi : ops[i]? = some oi) (hN : oi.dst = N) (hc : anyB md ops l l' i = true)
    (hQ : ∀ c a w, Q (.panic c) (a.put oi.dst v) w → Q (.panic c) a w) (hy : Yields P ops oi v a) (ha : a.put N v = a')
    (h : wpAnyLast P md ops Q S ds fuel l' a' w) : wpAnyLast P md ops Q S ds (fuel + 1) l a w := pure_ (i := i) (N := N) (v := v) (a' := a') l' hi hN hc hQ hy ha h
theorem zbj1 {α : Type _} {l : List α} {i : Nat} {a : α} : l.toArray.setIfInBounds i a = (l.set i a).toArray := by simp
theorem zbj2 {α : Type _} {x : α} {xs : List α} {a : α} : (x :: xs).set 0 a = a :: xs := rfl
theorem zbj3 {α : Type _} {x : α} {xs : List α} {n : Nat} {a : α} : (x :: xs).set (n + 1) a = x :: xs.set n a := rfl
set_option maxHeartbeats 8000000 in
set_option maxRecDepth 100000 in
theorem annuitantref36_Read.calls (k : Nat) (a0 : ByteArray) (r1 : Int) (r2 : Int) (r3 : List (S47)) (r4 : Int) (w : World) (h : annuitantref36_Read.f k a0 = some (r1, r2, r3, r4)) :
  Calls Tryz.prog 32 #[.string a0] w fun e w' => ∃ v2_ : Value, e = .returned (.tuple #[.agg #[.int .i64 r1, .int .i64 r2, v2_], .int .i64 r4]) ∧ Kd.R k47 47 w' w.heap.size (fun _ => True) v2_ r3 ∧ Below w.heap.size w w' := by
 have hu36 := Tryz.underlying36; have hu47 := Tryz.underlying47; have HB := Aside0.mk (Below.refl w.heap.size w); have H : ((annuitantref36_parse.f k a0 (⟨#[80, 65, 89]⟩ : ByteArray) 4 (⟨#[111, 114, 100, 101, 114]⟩ : ByteArray) 5).bind fun bt303 => (if bt303.2 = 0 then (if 0 < (bt303.1.length : Int) then (if 0 < ((rd_L6 bt303.1 0).length : Int) then (if 1 < ((rd_L6 bt303.1 0).length : Int) then (annuitantref36_Read.l0 k a0 bt303.1 1 (rd (rd_L6 bt303.1 0) 0) (rd (rd_L6 bt303.1 0) 1) ([] : List (S47))) else (none)) else (none)) else (none)) else (some (0, 0, ([] : List (S47)), bt303.2)))) = some (r1, r2, r3, r4) := h; clear h; replace H := Option.bind_eq_some_iff.mp H; obtain ⟨⟨t303, t304⟩, A20, H⟩ := H; replace H : (if t304 = 0 then (if 0 < (t303.length : Int) then (if 0 < ((rd_L6 t303 0).length : Int) then (if 1 < ((rd_L6 t303 0).length : Int) then (annuitantref36_Read.l0 k a0 t303 1 (rd (rd_L6 t303 0) 0) (rd (rd_L6 t303 0) 1) ([] : List (S47))) else (none)) else (none)) else (none)) else (some (0, 0, ([] : List (S47)), t304))) = some (r1, r2, r3, r4) := H; have A2 := Aside0.mk A20; clear A20
 by_cases c3 : t304 = 0
 ·
  rw [if_pos c3] at H
  have c3b0 : (t304 == 0) = true := beq_iff_eq.mpr c3; have c3b1 : (t304 != 0) = false := bne_eq_false_iff_eq.mpr c3; clear c3
  by_cases c4 : 0 < (t303.length : Int)
  ·
   rw [if_pos c4] at H
   have c4b0 : decide (0 < (t303.length : Int)) = true := decide_eq_true c4; have c4b1 : decide (0 < t303.length) = true := decide_eq_true (by omega); clear c4
   by_cases c5 : 0 < ((rd_L6 t303 0).length : Int)
   ·
    rw [if_pos c5] at H
    have c5b0 : decide (0 < ((rd_L6 t303 0).length : Int)) = true := decide_eq_true c5; have c5b1 : decide (0 < (rd_L6 t303 0).length) = true := decide_eq_true (by omega); clear c5
    by_cases c6 : 1 < ((rd_L6 t303 0).length : Int)
    ·
     rw [if_pos c6] at H
     have c6b0 : decide (1 < ((rd_L6 t303 0).length : Int)) = true := decide_eq_true c6; have c6b1 : decide (1 < (rd_L6 t303 0).length) = true := decide_eq_true (by omega); clear c6; have H' := Aside0.mk H; clear H
     go_enter Tryz.func32, Tryz.ntmps32
     try go_wp2_with (first | ((with_reducible refine gate_dst (N := 2) rfl ?_); refine box_event ?hg (N := 2) ?hd (cs := #[.int .i64 0, .int .i64 0, .slice none 0 0]) (t := 36) ?hr ?_; (case hd => rfl); (case hg => rfl); (case hr => first | (go_simp; done) | (go_simp; rfl)); intro gb302 hg w7 hbox hb; have BK302 := Aside0.mk (hbox); have GW302 := zG (w := w) hg; have GE302 := zG (w := w) hg; replace HB := zBs hb; clear hb hbox hg) | ((with_reducible refine gate_callee (f := 57) rfl ?_); refine goesL_ (some 13) rfl rfl Tryz.func57 (by kernel_rfl) rfl #[.string a0, .string (⟨#[80, 65, 89]⟩ : ByteArray), .int .i64 4, .string (⟨#[111, 114, 100, 101, 114]⟩ : ByteArray), .int .i64 5] rfl (by (try simp only [List.map_toArray, List.map_cons, List.map_nil]); try rfl) ?_; (with_reducible refine (annuitantref36_parse.calls k a0 (⟨#[80, 65, 89]⟩ : ByteArray) 4 (⟨#[111, 114, 100, 101, 114]⟩ : ByteArray) 5 t303 t304 _ A2.out).mono ?_); rintro e w8 ⟨v305, rfl, ho0, hb⟩; refine ⟨_, rfl, ?_⟩; have HO306 := Aside0.mk (Kd.S_lower ho0 (below_size zB)); replace BK302 := zKb BK302 hb; replace HB := zBs hb; (try clear hb); (try clear hb2); (try clear hk); (try clear hi); (try clear ho0)))
     replace HO306 := Aside0.mk (Kd.S_drew HO306.out); replace BK302 := Aside0.mk (blk_drew BK302.out); replace HB := Aside0.mk (below_drew1 HB.out); obtain ⟨Ao10, co10, eo10⟩ := Kd.S_slice HO306.out
     (first | subst eo10 | (injection eo10 with f1_ f2_ f3_; have f4_ := f1_.symm; have f5_ := f3_.symm; clear f1_ f2_ f3_; subst f4_; subst f5_))
     have p307 : 0 ≤ (0 : Int) := (by omega); have q307 : 0 < (t303.length : Int) := zD; obtain ⟨ad307, A307_0, c307_0, e307, hx307_0, hl307_0, hi307_0⟩ := at_L6 (Kd.S_reads' HO306.out).2.2 0 p307 q307
     cases e307
     obtain ⟨ce307, hce307, hMe307, hcc307⟩ := Kd.S_get HO306.out [] 0 p307 (by first | exact q307 | exact zD | (have e_ := (Kd.S_reads' HO306.out).1; omega))
     obtain ⟨ve307_0, rfl, ge307_0⟩ := hMe307; have hv307_0 := hcc307 0 _ rfl
     rw [Nat.add_zero, show ((Kd.slice 3 (Kd.int .i64))).sz = 1 from rfl, Nat.mul_one] at hv307_0
     replace hv307_0 := Option.some.inj (hv307_0.symm.trans hx307_0)
     rw [hv307_0] at ge307_0
     have HL307_0 := Aside0.mk (show Kd.R (Kd.int .i64) 3 _ _ _ _ (rd_L6 t303 0) from ge307_0); clear hv307_0 ge307_0; clear hcc307 hce307; have qi307 : (0 < t303.length) = True := eq_true (by omega)
     (try rw [show ((0 : Int)).toNat = 0 from rfl] at hx307_0)
     (try rw [Addr.add_zero'] at hx307_0)
     have HR307_0 := Aside0.mk hi307_0; have HC307_0 := Aside0.mk hl307_0; clear hi307_0 hl307_0; replace p307 := eq_true p307; replace q307 := eq_true q307; have p308 : 0 ≤ (0 : Int) := (by omega); have q308 : 0 < ((rd_L6 t303 0).length : Int) := zD; obtain ⟨ad308, e308, hx308_0⟩ := Kd.at_int (by repeat (first | (with_reducible exact HR307_0.out) | (with_reducible refine Kd.C_alloc ?_ _) | (with_reducible refine Kd.C_drewN ?_ _) | (with_reducible refine Kd.C_drew ?_) | exact HR307_0.out)) 0 p308 q308
     cases e308
     have qi308 : (0 < (rd_L6 t303 0).length) = True := eq_true (by omega)
     (try rw [show ((0 : Int)).toNat = 0 from rfl] at hx308_0)
     (try rw [Addr.add_zero'] at hx308_0)
     replace p308 := eq_true p308; replace q308 := eq_true q308; have p309 : 0 ≤ (0 : Int) := (by omega); have q309 : 0 < (t303.length : Int) := zD; obtain ⟨ad309, A309_0, c309_0, e309, hx309_0, hl309_0, hi309_0⟩ := at_L6 (Kd.S_reads' HO306.out).2.2 0 p309 q309; obtain rfl : ad307 = ad309 := (by injection e309); obtain ⟨ce309, hce309, hMe309, hcc309⟩ := Kd.S_get HO306.out [] 0 p309 (by first | exact q309 | exact zD | (have e_ := (Kd.S_reads' HO306.out).1; omega))
     obtain ⟨ve309_0, rfl, ge309_0⟩ := hMe309; have hv309_0 := hcc309 0 _ rfl
     rw [Nat.add_zero, show ((Kd.slice 3 (Kd.int .i64))).sz = 1 from rfl, Nat.mul_one] at hv309_0
     replace hv309_0 := Option.some.inj (hv309_0.symm.trans hx309_0)
     rw [hv309_0] at ge309_0
     have HL309_0 := Aside0.mk (show Kd.R (Kd.int .i64) 3 _ _ _ _ (rd_L6 t303 0) from ge309_0); clear hv309_0 ge309_0; clear hcc309 hce309; have qi309 : (0 < t303.length) = True := eq_true (by omega)
     (try rw [show ((0 : Int)).toNat = 0 from rfl] at hx309_0)
     (try rw [Addr.add_zero'] at hx309_0)
     have HR309_0 := Aside0.mk hi309_0; have HC309_0 := Aside0.mk hl309_0; clear hi309_0 hl309_0; replace p309 := eq_true p309; replace q309 := eq_true q309; have ea_ := Option.some.inj (hx307_0.symm.trans hx309_0); injection ea_ with ea_ en_ ec_; subst ea_; subst ec_; clear en_; have p310 : 0 ≤ (1 : Int) := (by omega); have q310 : 1 < ((rd_L6 t303 0).length : Int) := zD; obtain ⟨ad310, e310, hx310_0⟩ := Kd.at_int (by repeat (first | (with_reducible exact HR309_0.out) | (with_reducible refine Kd.C_alloc ?_ _) | (with_reducible refine Kd.C_drewN ?_ _) | (with_reducible refine Kd.C_drew ?_) | exact HR309_0.out)) 1 p310 q310
     cases e310
     (try simp only [show (1 : Int).toNat = 1 from rfl, Nat.reduceMul, Nat.reduceEqDiff, Go.Addr.add, ↓reduceIte] at hx310_0)
     have qi310 : (1 < (rd_L6 t303 0).length) = True := eq_true (by omega)
     (try rw [show ((1 : Int)).toNat = 1 from rfl] at hx310_0)
     replace p310 := eq_true p310; replace q310 := eq_true q310
     refine start_ (n := 13) (S := fun w' => w'.cell? ad307 = some (.slice (some ad308) (rd_L6 t303 0).length c307_0) ∧ w'.cell? ad308 = some (.int .i64 (rd (rd_L6 t303 0) 0)) ∧ w'.cell? ad307 = some (.slice (some ad308) (rd_L6 t303 0).length c307_0) ∧ w'.cell? ⟨ad308.block, ad308.off + 1, none⟩ = some (.int .i64 (rd (rd_L6 t303 0) 1))) (ds := []) zbjz0 (by kernel_rfl) rfl rfl ⟨hx307_0, hx308_0, hx309_0, hx310_0⟩ (fun hHeld => ?_); refine with_tabW annuitantref36_Read.tab4 annuitantref36_Read.bits4 (fun HT_ HW_ => ?_)
     generalize w8.drew = w9 at HO306 BK302 HB HL307_0 HL309_0 HR307_0 HR309_0 hx307_0 hx308_0 hx309_0 hx310_0 hHeld ⊢
     refine zbjp 0 (some 20) zbjz1 rfl rfl (any_of HT_.out (by kernel_rfl)) zbjq (Or.inl ⟨by rfl, by intro w'; go_simp; with_reducible rfl⟩) (by simp only [Act.put, zbj1, zbj2, zbj3, i64_w, i32_w]; rfl) ?_
     refine zbjp 1 (some 21) zbjz2 rfl rfl (any_of HT_.out (by kernel_rfl)) zbjq (Or.inl ⟨by rfl, by intro w'; go_simp; with_reducible rfl⟩) (by simp only [Act.put, zbj1, zbj2, zbj3, i64_w, i32_w]; rfl) ?_
     refine zbjp 5 (some 25) zbjz3 rfl rfl (any_of HT_.out (by kernel_rfl)) zbjq (Or.inl ⟨by rfl, by intro w'; go_simp; with_reducible rfl⟩) (by simp only [Act.put, zbj1, zbj2, zbj3, i64_w, i32_w]; rfl) ?_
     refine zbjp 6 (some 26) zbjz4 rfl rfl (any_of HT_.out (by kernel_rfl)) zbjq (Or.inl ⟨by rfl, by intro w'; go_simp; with_reducible rfl⟩) (by simp only [Act.put, zbj1, zbj2, zbj3, i64_w, i32_w]; rfl) ?_
     refine take_ (i := 2) (N := some 22) (v := ?_) (a' := ?_) zbjz5 rfl rfl (take_ofW HT_.out HW_.out (by kernel_rfl)) (fun _ _ _ h => h) (Or.inl ⟨by rfl, ?_⟩) hHeld ?_ ?_
     rotate_left
     ·
      rintro w' ⟨s0, s1, s2, s3⟩
      go_simp
      with_reducible rfl
     rotate_left
     · simp only [Act.put, zbj1, zbj2, zbj3, i64_w, i32_w]; rfl
     refine zbjp 3 (some 23) zbjz6 rfl rfl (any_of HT_.out (by kernel_rfl)) zbjq (Or.inl ⟨by rfl, by intro w'; go_simp; with_reducible rfl⟩) (by simp only [Act.put, zbj1, zbj2, zbj3, i64_w, i32_w]; rfl) ?_
     refine take_ (i := 4) (N := some 24) (v := ?_) (a' := ?_) zbjz7 rfl rfl (take_ofW HT_.out HW_.out (by kernel_rfl)) (fun _ _ _ h => h) (Or.inl ⟨by rfl, ?_⟩) hHeld ?_ ?_
     rotate_left
     ·
      rintro w' ⟨s0, s1, s2, s3⟩
      go_simp
      with_reducible rfl
     rotate_left
     · simp only [Act.put, zbj1, zbj2, zbj3, i64_w, i32_w]; rfl
     refine take_ (i := 7) (N := some 27) (v := ?_) (a' := ?_) zbjz8 rfl rfl (take_ofW HT_.out HW_.out (by kernel_rfl)) (fun _ _ _ h => h) (Or.inl ⟨by rfl, ?_⟩) hHeld ?_ ?_
     rotate_left
     ·
      rintro w' ⟨s0, s1, s2, s3⟩
      go_simp
      with_reducible rfl
     rotate_left
     · simp only [Act.put, zbj1, zbj2, zbj3, i64_w, i32_w]; rfl
     refine zbjp 8 (some 28) zbjz9 rfl rfl (any_of HT_.out (by kernel_rfl)) zbjq (Or.inl ⟨by rfl, by intro w'; go_simp; with_reducible rfl⟩) (by simp only [Act.put, zbj1, zbj2, zbj3, i64_w, i32_w]; rfl) ?_
     refine take_ (i := 9) (N := some 29) (v := ?_) (a' := ?_) zbjz10 rfl rfl (take_ofW HT_.out HW_.out (by kernel_rfl)) (fun _ _ _ h => h) (Or.inl ⟨by rfl, ?_⟩) hHeld ?_ ?_
     rotate_left
     ·
      rintro w' ⟨s0, s1, s2, s3⟩
      go_simp
      with_reducible rfl
     rotate_left
     · simp only [Act.put, zbj1, zbj2, zbj3, i64_w, i32_w]; rfl
     refine zbjp 10 (some 30) zbjz11 rfl rfl (any_of HT_.out (by kernel_rfl)) zbjq (Or.inl ⟨by rfl, by intro w'; go_simp; with_reducible rfl⟩) (by simp only [Act.put, zbj1, zbj2, zbj3, i64_w, i32_w]; rfl) ?_
     refine one_ (i := 11) (N := some 6) zbjz12 rfl rfl (one_of HT_.out (by kernel_rfl)) (by decide) (fun K hK => ?_)
     refine box_step ?hg (N := 6) ?hd (cs := #[.int .i64 0, .int .i64 0, .slice none 0 0]) (t := 36) ?hr ?_; (case hd => rfl); (case hg => rfl); (case hr => first | (go_simp; done) | (go_simp; rfl))
     intro gb311 hg w11 hbox hb; have HS0_ := (hb.cell (World.block_lt_of_cell? _ _ (hHeld.1))).trans (hHeld.1); have HS1_ := (hb.cell (World.block_lt_of_cell? _ _ (hHeld.2.1))).trans (hHeld.2.1); have HS2_ := (hb.cell (World.block_lt_of_cell? _ _ (hHeld.2.2.1))).trans (hHeld.2.2.1); have HS3_ := (hb.cell (World.block_lt_of_cell? _ _ (hHeld.2.2.2))).trans (hHeld.2.2.2); have n0_ := Aside0.mk (Kd.S_below (zS HO306) hb)
     have n1_ := Aside0.mk (Kd.R_below (by (with_reducible repeat (first | apply Kd.R_alloc | apply Kd.R_drewN | apply Kd.R_drew)); exact HL307_0.out) hb)
     have n2_ := Aside0.mk (Kd.R_below (by (with_reducible repeat (first | apply Kd.R_alloc | apply Kd.R_drewN | apply Kd.R_drew)); exact HL309_0.out) hb)
     have n3_ := zKb BK302 hb
     have n4_ := Aside0.mk (Kd.C_below (by repeat (first | (with_reducible exact HR307_0.out) | (with_reducible refine Kd.C_alloc ?_ _) | (with_reducible refine Kd.C_drewN ?_ _) | (with_reducible refine Kd.C_drew ?_) | exact HR307_0.out)) hb); have n5_ := Aside0.mk (Kd.C_below (by repeat (first | (with_reducible exact HR309_0.out) | (with_reducible refine Kd.C_alloc ?_ _) | (with_reducible refine Kd.C_drewN ?_ _) | (with_reducible refine Kd.C_drew ?_) | exact HR309_0.out)) hb); have n6_ := zBs hb; have n7_ := Aside0.mk (hbox); have n8_ := zG (w := w) hg
     have n9_ := zG (w := w) hg
     have n10_ := zN hg (zK BK302)
     have n11_ := zM hg (zK BK302)
     clear HO306; clear HL307_0; clear HL309_0; clear BK302; clear HR307_0; clear HR309_0; clear HB; have HO306 := n0_; have HL307_0 := n1_; have HL309_0 := n2_; have BK302 := n3_; have HR307_0 := n4_; have HR309_0 := n5_; have HB := n6_; have BK311 := n7_; have GW311 := n8_; have GE311 := n9_; have NB302_311 := n10_; have NB311_302 := n11_; clear n0_ n1_ n2_ n3_ n4_ n5_ n6_ n7_ n8_ n9_ n10_ n11_; clear hb hbox hg
     refine hK.out _ _ ⟨HS0_, HS1_, HS2_, HS3_⟩ (fun hHeld => ?_)
     clear hK K
     refine norm_ (a' := ?_) ?_ ?_
     rotate_left
     ·
      show Act.put _ (some 6) _ = _
      simp only [Act.put, zbj1, zbj2, zbj3, i64_w, i32_w]
      rfl
     refine one_ (i := 12) (N := none) zbjz13 rfl rfl (one_of HT_.out (by kernel_rfl)) (by decide) (fun K hK => ?_)
     have hs12 : w11.cell? ⟨gb311, 0, none⟩ = some (.int .i64 0) := (blk_cell BK311.out 0).trans rfl; have hfs12 := blk_frozen BK311.out 0; have hns12_0 := NB302_311.out; have hms12_0 := NB311_302.out; have hs13 : w11.cell? ⟨gb311, 1, none⟩ = some (.int .i64 0) := (blk_cell BK311.out 1).trans rfl; have hfs13 := blk_frozen BK311.out 1; have hns13_0 := NB302_311.out; have hms13_0 := NB311_302.out; have hs14 : w11.cell? ⟨gb311, 2, none⟩ = some (.slice none 0 0) := (blk_cell BK311.out 2).trans rfl; have hfs14 := blk_frozen BK311.out 2; have hns14_0 := NB302_311.out; have hms14_0 := NB311_302.out
     refine skip_ (w1 := ?_) (by rfl) rfl ?_ ?_
     rotate_left
     · go_simp; rfl
     refine hK.out _ _ ⟨((cell_far (p := ⟨gb311, _, none⟩) (by first | exact Kd.own_blk (Kd.S_ne HO306.out BK311.out (by decide)) | (rw [add_block]; exact Kd.own_blk (Kd.S_ne HO306.out BK311.out (by decide))) | (show (Addr.add _ _).block ≠ _; rw [add_block]; exact Kd.own_blk (Kd.S_ne HO306.out BK311.out (by decide))) | (dsimp only; exact Kd.own_blk (Kd.S_ne HO306.out BK311.out (by decide)))) _).trans (((cell_far (p := ⟨gb311, _, none⟩) (by first | exact Kd.own_blk (Kd.S_ne HO306.out BK311.out (by decide)) | (rw [add_block]; exact Kd.own_blk (Kd.S_ne HO306.out BK311.out (by decide))) | (show (Addr.add _ _).block ≠ _; rw [add_block]; exact Kd.own_blk (Kd.S_ne HO306.out BK311.out (by decide))) | (dsimp only; exact Kd.own_blk (Kd.S_ne HO306.out BK311.out (by decide)))) _).trans (((cell_far (p := ⟨gb311, _, none⟩) (by first | exact Kd.own_blk (Kd.S_ne HO306.out BK311.out (by decide)) | (rw [add_block]; exact Kd.own_blk (Kd.S_ne HO306.out BK311.out (by decide))) | (show (Addr.add _ _).block ≠ _; rw [add_block]; exact Kd.own_blk (Kd.S_ne HO306.out BK311.out (by decide))) | (dsimp only; exact Kd.own_blk (Kd.S_ne HO306.out BK311.out (by decide)))) _).trans (hHeld.1)))))), ((cell_far (p := ⟨gb311, _, none⟩) (by first | exact Kd.own_blk (Kd.R_ne HL307_0.out BK311.out (by decide)) | (rw [add_block]; exact Kd.own_blk (Kd.R_ne HL307_0.out BK311.out (by decide))) | (show (Addr.add _ _).block ≠ _; rw [add_block]; exact Kd.own_blk (Kd.R_ne HL307_0.out BK311.out (by decide))) | (dsimp only; exact Kd.own_blk (Kd.R_ne HL307_0.out BK311.out (by decide)))) _).trans (((cell_far (p := ⟨gb311, _, none⟩) (by first | exact Kd.own_blk (Kd.R_ne HL307_0.out BK311.out (by decide)) | (rw [add_block]; exact Kd.own_blk (Kd.R_ne HL307_0.out BK311.out (by decide))) | (show (Addr.add _ _).block ≠ _; rw [add_block]; exact Kd.own_blk (Kd.R_ne HL307_0.out BK311.out (by decide))) | (dsimp only; exact Kd.own_blk (Kd.R_ne HL307_0.out BK311.out (by decide)))) _).trans (((cell_far (p := ⟨gb311, _, none⟩) (by first | exact Kd.own_blk (Kd.R_ne HL307_0.out BK311.out (by decide)) | (rw [add_block]; exact Kd.own_blk (Kd.R_ne HL307_0.out BK311.out (by decide))) | (show (Addr.add _ _).block ≠ _; rw [add_block]; exact Kd.own_blk (Kd.R_ne HL307_0.out BK311.out (by decide))) | (dsimp only; exact Kd.own_blk (Kd.R_ne HL307_0.out BK311.out (by decide)))) _).trans (hHeld.2.1)))))), ((cell_far (p := ⟨gb311, _, none⟩) (by first | exact Kd.own_blk (Kd.S_ne HO306.out BK311.out (by decide)) | (rw [add_block]; exact Kd.own_blk (Kd.S_ne HO306.out BK311.out (by decide))) | (show (Addr.add _ _).block ≠ _; rw [add_block]; exact Kd.own_blk (Kd.S_ne HO306.out BK311.out (by decide))) | (dsimp only; exact Kd.own_blk (Kd.S_ne HO306.out BK311.out (by decide)))) _).trans (((cell_far (p := ⟨gb311, _, none⟩) (by first | exact Kd.own_blk (Kd.S_ne HO306.out BK311.out (by decide)) | (rw [add_block]; exact Kd.own_blk (Kd.S_ne HO306.out BK311.out (by decide))) | (show (Addr.add _ _).block ≠ _; rw [add_block]; exact Kd.own_blk (Kd.S_ne HO306.out BK311.out (by decide))) | (dsimp only; exact Kd.own_blk (Kd.S_ne HO306.out BK311.out (by decide)))) _).trans (((cell_far (p := ⟨gb311, _, none⟩) (by first | exact Kd.own_blk (Kd.S_ne HO306.out BK311.out (by decide)) | (rw [add_block]; exact Kd.own_blk (Kd.S_ne HO306.out BK311.out (by decide))) | (show (Addr.add _ _).block ≠ _; rw [add_block]; exact Kd.own_blk (Kd.S_ne HO306.out BK311.out (by decide))) | (dsimp only; exact Kd.own_blk (Kd.S_ne HO306.out BK311.out (by decide)))) _).trans (hHeld.2.2.1)))))), ((cell_far (p := ⟨gb311, _, none⟩) (by first | exact Kd.own_blk (Kd.R_ne HL309_0.out BK311.out (by decide)) | (rw [add_block]; exact Kd.own_blk (Kd.R_ne HL309_0.out BK311.out (by decide))) | (show (Addr.add _ _).block ≠ _; rw [add_block]; exact Kd.own_blk (Kd.R_ne HL309_0.out BK311.out (by decide))) | (dsimp only; exact Kd.own_blk (Kd.R_ne HL309_0.out BK311.out (by decide)))) _).trans (((cell_far (p := ⟨gb311, _, none⟩) (by first | exact Kd.own_blk (Kd.R_ne HL309_0.out BK311.out (by decide)) | (rw [add_block]; exact Kd.own_blk (Kd.R_ne HL309_0.out BK311.out (by decide))) | (show (Addr.add _ _).block ≠ _; rw [add_block]; exact Kd.own_blk (Kd.R_ne HL309_0.out BK311.out (by decide))) | (dsimp only; exact Kd.own_blk (Kd.R_ne HL309_0.out BK311.out (by decide)))) _).trans (((cell_far (p := ⟨gb311, _, none⟩) (by first | exact Kd.own_blk (Kd.R_ne HL309_0.out BK311.out (by decide)) | (rw [add_block]; exact Kd.own_blk (Kd.R_ne HL309_0.out BK311.out (by decide))) | (show (Addr.add _ _).block ≠ _; rw [add_block]; exact Kd.own_blk (Kd.R_ne HL309_0.out BK311.out (by decide))) | (dsimp only; exact Kd.own_blk (Kd.R_ne HL309_0.out BK311.out (by decide)))) _).trans (hHeld.2.2.2))))))⟩ (fun hHeld => ?_)
     clear hK K
     refine done_ (done_of HT_.out (by kernel_rfl)) ?_
     try go_wp2
     go_loopg [7] k (fun kq v7 w' => ∃ (x7_1 : Int) (x312002_1 : List (S47)) (u312002 : Value), v7 = .int .i64 x7_1 ∧ Aside0 (annuitantref36_Read.l0 kq a0 t303 x7_1 (rd (rd_L6 t303 0) 0) (rd (rd_L6 t303 0) 1) x312002_1 = some (r1, r2, r3, r4)) ∧ Aside0 (kq ≤ k) ∧ Aside0 (Kd.S (Kd.slice 3 (Kd.int .i64)) 44 w' w.heap.size (fun _ => True) (.slice (some ad307) t303.length co10) t303) ∧ Aside0 (Kd.R k47 47 w' w.heap.size (fun _ => True) u312002 x312002_1) ∧ Aside0 (w'.heap[gb302]? = some (.cells #[.int .i64 0, .int .i64 0, (.slice none 0 0)] 36 (0, 0))) ∧ Aside0 (w'.heap[gb311]? = some (.cells #[.int .i64 (rd (rd_L6 t303 0) 0), .int .i64 (rd (rd_L6 t303 0) 1), u312002] 36 (0, 0))) ∧ Aside0 (Below w.heap.size w w'))
     case atStart => exact ⟨(1), (([] : List (S47))), (.slice none 0 0), (by first | rfl | (simp; done) | (simp [*]; done)), H', ⟨Nat.le_refl _⟩, ⟨by (with_reducible repeat (first | apply Kd.S_alloc | apply Kd.S_drewN | apply Kd.S_drew)); exact Kd.S_mono (Kd.S_far (p := ⟨gb311, 2, none⟩) (Kd.S_far (p := ⟨gb311, 1, none⟩) (Kd.S_far (p := ⟨gb311, 0, none⟩) (Kd.S_types HO306.out BK311.out (by decide)) (fun _ hk => hk.2) (.int .i64 (rd (rd_L6 t303 0) 0))) (fun _ hk => hk.2) (.int .i64 (rd (rd_L6 t303 0) 1))) (fun _ hk => hk.2) (.slice none 0 0)) (fun _ hk => trivial)⟩, ⟨by first | exact Kd.R_nil _ _ _ _ _ | exact Kd.N_nil _ _ _ _ _ | exact Kd.V_nil _ _ _ _ _ | exact Kd.Q_nil _ _ _ _ _ | exact Kd.S_nil _ _ _ _ _⟩, ⟨zF BK302⟩, ⟨by (with_reducible repeat (first | apply blk_drewN | apply blk_drew | apply blk_alloc)); refine blk_put (cs := #[.int .i64 (rd (rd_L6 t303 0) 0), .int .i64 (rd (rd_L6 t303 0) 1), .slice none 0 0]) ?_ 2 _ rfl; (with_reducible repeat (first | apply blk_drewN | apply blk_drew | apply blk_alloc)); refine blk_put (cs := #[.int .i64 (rd (rd_L6 t303 0) 0), .int .i64 0, .slice none 0 0]) ?_ 1 _ rfl; (with_reducible repeat (first | apply blk_drewN | apply blk_drew | apply blk_alloc)); refine blk_put (cs := #[.int .i64 0, .int .i64 0, .slice none 0 0]) ?_ 0 _ rfl; (with_reducible repeat (first | apply blk_drewN | apply blk_drew | apply blk_alloc)); exact BK311.out⟩, ⟨zB⟩⟩
     case round =>
      clear H'
      try clear p2
      try clear c3
      try clear c3b0
      try clear c3b1
      try clear p3
      try clear q3
      try clear hx3
      try clear qi3
      try clear c4
      try clear c4b0
      try clear c4b1
      try clear c5
      try clear c5b0
      try clear c5b1
      try clear c6
      try clear c6b0
      try clear c6b1
      try clear hx307_0
      try clear hx308_0
      try clear hx309_0
      try clear hx310_0
      try clear p307
      try clear p308
      try clear p309
      try clear p310
      try clear q307
      try clear q308
      try clear q309
      try clear q310
      obtain ⟨x7_1, x312002_1, u312002, rfl, HA, HK1, HO_4, HO_312002, BK302, BK311, HB⟩ := hrel
      cases gk with
      | zero => exact absurd HA.out (by simp [annuitantref36_Read.l0])
      | succ k1 =>
       have H := HA.out; clear HA
       simp only [annuitantref36_Read.l0] at H
       by_cases c15 : x7_1 < (t303.length : Int)
       ·
        rw [if_pos c15] at H
        have c15b0 : decide (x7_1 < (t303.length : Int)) = true := decide_eq_true c15; clear c15
        by_cases c16 : 0 ≤ x7_1
        ·
         rw [if_pos c16] at H
         have c16b0 : decide (0 ≤ x7_1) = true := decide_eq_true c16; clear c16
         by_cases c17 : 0 < ((rd_L6 t303 x7_1).length : Int)
         ·
          rw [if_pos c17] at H
          have c17b0 : decide (0 < ((rd_L6 t303 x7_1).length : Int)) = true := decide_eq_true c17; have c17b1 : decide (0 < (rd_L6 t303 x7_1).length) = true := decide_eq_true (by omega); clear c17
          by_cases c18 : 1 < ((rd_L6 t303 x7_1).length : Int)
          ·
           rw [if_pos c18] at H
           have c18b0 : decide (1 < ((rd_L6 t303 x7_1).length : Int)) = true := decide_eq_true c18; have c18b1 : decide (1 < (rd_L6 t303 x7_1).length) = true := decide_eq_true (by omega); clear c18
           by_cases c19 : 2 < ((rd_L6 t303 x7_1).length : Int)
           ·
            rw [if_pos c19] at H
            have c19b0 : decide (2 < ((rd_L6 t303 x7_1).length : Int)) = true := decide_eq_true c19; have c19b1 : decide (2 < (rd_L6 t303 x7_1).length) = true := decide_eq_true (by omega); clear c19
            by_cases c20 : 3 < ((rd_L6 t303 x7_1).length : Int)
            ·
             rw [if_pos c20] at H
             have c20b0 : decide (3 < ((rd_L6 t303 x7_1).length : Int)) = true := decide_eq_true c20; have c20b1 : decide (3 < (rd_L6 t303 x7_1).length) = true := decide_eq_true (by omega); clear c20
             by_cases c21 : 4 < ((rd_L6 t303 x7_1).length : Int)
             ·
              rw [if_pos c21] at H
              have c21b0 : decide (4 < ((rd_L6 t303 x7_1).length : Int)) = true := decide_eq_true c21; have c21b1 : decide (4 < (rd_L6 t303 x7_1).length) = true := decide_eq_true (by omega); clear c21
              by_cases c22 : x312002_1.length < 3518437208883
              ·
               rw [if_pos c22] at H
               have LMc22 := Aside0.mk c22; clear c22
               obtain ⟨y318, hy318⟩ : ∃ y_ : List (S47), y_ = (x312002_1 ++ [(⟨rd (rd_L6 t303 x7_1) 0, rd (rd_L6 t303 x7_1) 1, rd (rd_L6 t303 x7_1) 2, rd (rd_L6 t303 x7_1) 3, rd (rd_L6 t303 x7_1) 4⟩ : S47)]) := ⟨_, rfl⟩
               replace H : (annuitantref36_Read.l0 k1 a0 t303 (wrap64 (x7_1 + 1)) (rd (rd_L6 t303 0) 0) (rd (rd_L6 t303 0) 1) y318) = some (r1, r2, r3, r4) := by first | (rw [hy318]; with_reducible exact H) | (have H2_ := (Option.bind_some _ _).symm.trans H; rw [hy318]; with_reducible exact H2_) | (have H2_ := (Option.bind_some _ _).symm.trans H; with_reducible exact H2_) | with_reducible exact H | (rw [hy318]; exact H) | exact H
               have Ny318 := Aside0.mk hy318; clear hy318; have H' := Aside0.mk H; clear H; have p312 : 0 ≤ (x7_1 : Int) := zD; have q312 : x7_1 < (t303.length : Int) := zD; obtain ⟨ad312, A312_0, c312_0, e312, hx312_0, hl312_0, hi312_0⟩ := at_L6 (Kd.S_reads' HO_4.out).2.2 x7_1 p312 q312; obtain rfl : ad307 = ad312 := (by injection e312); obtain ⟨ce312, hce312, hMe312, hcc312⟩ := Kd.S_get HO_4.out [] x7_1 p312 (by first | exact q312 | exact zD | (have e_ := (Kd.S_reads' HO_4.out).1; omega))
               obtain ⟨ve312_0, rfl, ge312_0⟩ := hMe312; have hv312_0 := hcc312 0 _ rfl
               rw [Nat.add_zero, show ((Kd.slice 3 (Kd.int .i64))).sz = 1 from rfl, Nat.mul_one] at hv312_0
               replace hv312_0 := Option.some.inj (hv312_0.symm.trans hx312_0)
               rw [hv312_0] at ge312_0
               have HL312_0 := Aside0.mk (show Kd.R (Kd.int .i64) 3 _ _ _ _ (rd_L6 t303 x7_1) from ge312_0); clear hv312_0 ge312_0; clear hcc312 hce312; have HR312_0 := Aside0.mk hi312_0; have HC312_0 := Aside0.mk hl312_0; clear hi312_0 hl312_0; replace p312 := eq_true p312; replace q312 := eq_true q312
               try go_wp2
               replace HO_4 := Aside0.mk (Kd.S_drew HO_4.out); replace HO_312002 := Aside0.mk (Kd.R_drew HO_312002.out); replace HL312_0 := Aside0.mk (Kd.R_drew HL312_0.out); replace BK302 := Aside0.mk (blk_drew BK302.out); replace BK311 := Aside0.mk (blk_drew BK311.out); replace HR312_0 := Aside0.mk (Kd.C_drew HR312_0.out); replace HB := Aside0.mk (below_drew1 HB.out); have p313 : 0 ≤ (0 : Int) := (by omega); have q313 : 0 < ((rd_L6 t303 x7_1).length : Int) := zD; obtain ⟨ad313, e313, hx313_0⟩ := Kd.at_int (by repeat (first | (with_reducible exact HR312_0.out) | (with_reducible refine Kd.C_alloc ?_ _) | (with_reducible refine Kd.C_drewN ?_ _) | (with_reducible refine Kd.C_drew ?_) | exact HR312_0.out)) 0 p313 q313
               cases e313
               have qi313 : (0 < (rd_L6 t303 x7_1).length) = True := eq_true (by omega)
               (try rw [show ((0 : Int)).toNat = 0 from rfl] at hx313_0)
               (try rw [Addr.add_zero'] at hx313_0)
               replace p313 := eq_true p313; replace q313 := eq_true q313; have p314 : 0 ≤ (1 : Int) := (by omega); have q314 : 1 < ((rd_L6 t303 x7_1).length : Int) := zD; obtain ⟨ad314, e314, hx314_0⟩ := Kd.at_int (by repeat (first | (with_reducible exact HR312_0.out) | (with_reducible refine Kd.C_alloc ?_ _) | (with_reducible refine Kd.C_drewN ?_ _) | (with_reducible refine Kd.C_drew ?_) | exact HR312_0.out)) 1 p314 q314; obtain rfl : ad313 = ad314 := (by injection e314)
               (try simp only [show (1 : Int).toNat = 1 from rfl, Nat.reduceMul, Nat.reduceEqDiff, Go.Addr.add, ↓reduceIte] at hx314_0)
               have qi314 : (1 < (rd_L6 t303 x7_1).length) = True := eq_true (by omega)
               (try rw [show ((1 : Int)).toNat = 1 from rfl] at hx314_0)
               replace p314 := eq_true p314; replace q314 := eq_true q314; have p315 : 0 ≤ (2 : Int) := (by omega); have q315 : 2 < ((rd_L6 t303 x7_1).length : Int) := zD; obtain ⟨ad315, e315, hx315_0⟩ := Kd.at_int (by repeat (first | (with_reducible exact HR312_0.out) | (with_reducible refine Kd.C_alloc ?_ _) | (with_reducible refine Kd.C_drewN ?_ _) | (with_reducible refine Kd.C_drew ?_) | exact HR312_0.out)) 2 p315 q315; obtain rfl : ad313 = ad315 := (by injection e315)
               (try simp only [show (2 : Int).toNat = 2 from rfl, Nat.reduceMul, Nat.reduceEqDiff, Go.Addr.add, ↓reduceIte] at hx315_0)
               have qi315 : (2 < (rd_L6 t303 x7_1).length) = True := eq_true (by omega)
               (try rw [show ((2 : Int)).toNat = 2 from rfl] at hx315_0)
               replace p315 := eq_true p315; replace q315 := eq_true q315; have p316 : 0 ≤ (3 : Int) := (by omega); have q316 : 3 < ((rd_L6 t303 x7_1).length : Int) := zD; obtain ⟨ad316, e316, hx316_0⟩ := Kd.at_int (by repeat (first | (with_reducible exact HR312_0.out) | (with_reducible refine Kd.C_alloc ?_ _) | (with_reducible refine Kd.C_drewN ?_ _) | (with_reducible refine Kd.C_drew ?_) | exact HR312_0.out)) 3 p316 q316; obtain rfl : ad313 = ad316 := (by injection e316)
               (try simp only [show (3 : Int).toNat = 3 from rfl, Nat.reduceMul, Nat.reduceEqDiff, Go.Addr.add, ↓reduceIte] at hx316_0)
               have qi316 : (3 < (rd_L6 t303 x7_1).length) = True := eq_true (by omega)
               (try rw [show ((3 : Int)).toNat = 3 from rfl] at hx316_0)
               replace p316 := eq_true p316; replace q316 := eq_true q316; have p317 : 0 ≤ (4 : Int) := (by omega); have q317 : 4 < ((rd_L6 t303 x7_1).length : Int) := zD; obtain ⟨ad317, e317, hx317_0⟩ := Kd.at_int (by repeat (first | (with_reducible exact HR312_0.out) | (with_reducible refine Kd.C_alloc ?_ _) | (with_reducible refine Kd.C_drewN ?_ _) | (with_reducible refine Kd.C_drew ?_) | exact HR312_0.out)) 4 p317 q317; obtain rfl : ad313 = ad317 := (by injection e317)
               (try simp only [show (4 : Int).toNat = 4 from rfl, Nat.reduceMul, Nat.reduceEqDiff, Go.Addr.add, ↓reduceIte] at hx317_0)
               have qi317 : (4 < (rd_L6 t303 x7_1).length) = True := eq_true (by omega)
               (try rw [show ((4 : Int)).toNat = 4 from rfl] at hx317_0)
               replace p317 := eq_true p317; replace q317 := eq_true q317
               refine start_ (n := 22) (S := fun w' => w'.cell? ⟨gb311, 0, none⟩ = some (.int .i64 (rd (rd_L6 t303 0) 0)) ∧ w'.cell? ⟨gb311, 1, none⟩ = some (.int .i64 (rd (rd_L6 t303 0) 1)) ∧ w'.cell? ⟨gb311, 2, none⟩ = some (u312002) ∧ w'.cell? ad313 = some (.int .i64 (rd (rd_L6 t303 x7_1) 0)) ∧ w'.cell? ⟨ad313.block, ad313.off + 1, none⟩ = some (.int .i64 (rd (rd_L6 t303 x7_1) 1)) ∧ w'.cell? ⟨ad313.block, ad313.off + 2, none⟩ = some (.int .i64 (rd (rd_L6 t303 x7_1) 2)) ∧ w'.cell? ⟨ad313.block, ad313.off + 3, none⟩ = some (.int .i64 (rd (rd_L6 t303 x7_1) 3)) ∧ w'.cell? ⟨ad313.block, ad313.off + 4, none⟩ = some (.int .i64 (rd (rd_L6 t303 x7_1) 4))) (ds := [19, 21]) zbjz14 (by kernel_rfl) rfl rfl ⟨(blk_cell BK311.out 0).trans rfl, (blk_cell BK311.out 1).trans rfl, (blk_cell BK311.out 2).trans rfl, hx313_0, hx314_0, hx315_0, hx316_0, hx317_0⟩ (fun hHeld => ?_); refine with_tabW annuitantref36_Read.tab9 annuitantref36_Read.bits9 (fun HT_ HW_ => ?_)
               generalize wr.drew = w23 at HO_4 HO_312002 HL312_0 BK302 BK311 HR312_0 HB hx313_0 hx314_0 hx315_0 hx316_0 hx317_0 hHeld ⊢
               refine zbjp 0 (some 41) zbjz15 rfl rfl (any_of HT_.out (by kernel_rfl)) zbjq (Or.inl ⟨by rfl, by intro w'; go_simp; with_reducible rfl⟩) (by simp only [Act.put, zbj1, zbj2, zbj3, i64_w, i32_w]; rfl) ?_
               refine zbjp 2 (some 43) zbjz16 rfl rfl (any_of HT_.out (by kernel_rfl)) zbjq (Or.inl ⟨by rfl, by intro w'; go_simp; with_reducible rfl⟩) (by simp only [Act.put, zbj1, zbj2, zbj3, i64_w, i32_w]; rfl) ?_
               refine zbjp 3 (some 44) zbjz17 rfl rfl (any_of HT_.out (by kernel_rfl)) zbjq (Or.inl ⟨by rfl, by intro w'; go_simp; with_reducible rfl⟩) (by simp only [Act.put, zbj1, zbj2, zbj3, i64_w, i32_w]; rfl) ?_
               refine zbjp 5 (some 46) zbjz18 rfl rfl (any_of HT_.out (by kernel_rfl)) zbjq (Or.inl ⟨by rfl, by intro w'; go_simp; with_reducible rfl⟩) (by simp only [Act.put, zbj1, zbj2, zbj3, i64_w, i32_w]; rfl) ?_
               refine zbjp 6 (some 47) zbjz19 rfl rfl (any_of HT_.out (by kernel_rfl)) zbjq (Or.inl ⟨by rfl, by intro w'; go_simp; with_reducible rfl⟩) (by simp only [Act.put, zbj1, zbj2, zbj3, i64_w, i32_w]; rfl) ?_
               refine zbjp 8 (some 49) zbjz20 rfl rfl (any_of HT_.out (by kernel_rfl)) zbjq (Or.inl ⟨by rfl, by intro w'; go_simp; with_reducible rfl⟩) (by simp only [Act.put, zbj1, zbj2, zbj3, i64_w, i32_w]; rfl) ?_
               refine zbjp 9 (some 50) zbjz21 rfl rfl (any_of HT_.out (by kernel_rfl)) zbjq (Or.inl ⟨by rfl, by intro w'; go_simp; with_reducible rfl⟩) (by simp only [Act.put, zbj1, zbj2, zbj3, i64_w, i32_w]; rfl) ?_
               refine zbjp 11 (some 52) zbjz22 rfl rfl (any_of HT_.out (by kernel_rfl)) zbjq (Or.inl ⟨by rfl, by intro w'; go_simp; with_reducible rfl⟩) (by simp only [Act.put, zbj1, zbj2, zbj3, i64_w, i32_w]; rfl) ?_
               refine zbjp 12 (some 53) zbjz23 rfl rfl (any_of HT_.out (by kernel_rfl)) zbjq (Or.inl ⟨by rfl, by intro w'; go_simp; with_reducible rfl⟩) (by simp only [Act.put, zbj1, zbj2, zbj3, i64_w, i32_w]; rfl) ?_
               refine zbjp 14 (some 55) zbjz24 rfl rfl (any_of HT_.out (by kernel_rfl)) zbjq (Or.inl ⟨by rfl, by intro w'; go_simp; with_reducible rfl⟩) (by simp only [Act.put, zbj1, zbj2, zbj3, i64_w, i32_w]; rfl) ?_
               refine zbjp 15 (some 56) zbjz25 rfl rfl (any_of HT_.out (by kernel_rfl)) zbjq (Or.inl ⟨by rfl, by intro w'; go_simp; with_reducible rfl⟩) (by simp only [Act.put, zbj1, zbj2, zbj3, i64_w, i32_w]; rfl) ?_
               refine take_ (i := 1) (N := some 42) (v := ?_) (a' := ?_) zbjz26 rfl rfl (take_ofW HT_.out HW_.out (by kernel_rfl)) (fun _ _ _ h => h) (Or.inl ⟨by rfl, ?_⟩) hHeld ?_ ?_
               rotate_left
               ·
                rintro w' ⟨s0, s1, s2, s3, s4, s5, s6, s7⟩
                go_simp
                with_reducible rfl
               rotate_left
               · simp only [Act.put, zbj1, zbj2, zbj3, i64_w, i32_w]; rfl
               refine take_ (i := 4) (N := some 45) (v := ?_) (a' := ?_) zbjz27 rfl rfl (take_ofW HT_.out HW_.out (by kernel_rfl)) (fun _ _ _ h => h) (Or.inl ⟨by rfl, ?_⟩) hHeld ?_ ?_
               rotate_left
               ·
                rintro w' ⟨s0, s1, s2, s3, s4, s5, s6, s7⟩
                go_simp
                with_reducible rfl
               rotate_left
               · simp only [Act.put, zbj1, zbj2, zbj3, i64_w, i32_w]; rfl
               refine take_ (i := 7) (N := some 48) (v := ?_) (a' := ?_) zbjz28 rfl rfl (take_ofW HT_.out HW_.out (by kernel_rfl)) (fun _ _ _ h => h) (Or.inl ⟨by rfl, ?_⟩) hHeld ?_ ?_
               rotate_left
               ·
                rintro w' ⟨s0, s1, s2, s3, s4, s5, s6, s7⟩
                go_simp
                with_reducible rfl
               rotate_left
               · simp only [Act.put, zbj1, zbj2, zbj3, i64_w, i32_w]; rfl
               refine take_ (i := 10) (N := some 51) (v := ?_) (a' := ?_) zbjz29 rfl rfl (take_ofW HT_.out HW_.out (by kernel_rfl)) (fun _ _ _ h => h) (Or.inl ⟨by rfl, ?_⟩) hHeld ?_ ?_
               rotate_left
               ·
                rintro w' ⟨s0, s1, s2, s3, s4, s5, s6, s7⟩
                go_simp
                with_reducible rfl
               rotate_left
               · simp only [Act.put, zbj1, zbj2, zbj3, i64_w, i32_w]; rfl
               refine take_ (i := 13) (N := some 54) (v := ?_) (a' := ?_) zbjz30 rfl rfl (take_ofW HT_.out HW_.out (by kernel_rfl)) (fun _ _ _ h => h) (Or.inl ⟨by rfl, ?_⟩) hHeld ?_ ?_
               rotate_left
               ·
                rintro w' ⟨s0, s1, s2, s3, s4, s5, s6, s7⟩
                go_simp
                with_reducible rfl
               rotate_left
               · simp only [Act.put, zbj1, zbj2, zbj3, i64_w, i32_w]; rfl
               refine take_ (i := 16) (N := some 57) (v := ?_) (a' := ?_) zbjz31 rfl rfl (take_ofW HT_.out HW_.out (by kernel_rfl)) (fun _ _ _ h => h) (Or.inl ⟨by rfl, ?_⟩) hHeld ?_ ?_
               rotate_left
               ·
                rintro w' ⟨s0, s1, s2, s3, s4, s5, s6, s7⟩
                go_simp
                with_reducible rfl
               rotate_left
               · simp only [Act.put, zbj1, zbj2, zbj3, i64_w, i32_w]; rfl
               refine zbjp 17 (some 58) zbjz32 rfl rfl (any_of HT_.out (by kernel_rfl)) zbjq (Or.inl ⟨by rfl, by intro w'; go_simp; with_reducible rfl⟩) (by simp only [Act.put, zbj1, zbj2, zbj3, i64_w, i32_w]; rfl) ?_
               refine one_ (i := 18) (N := some 59) zbjz33 rfl rfl (one_of HT_.out (by kernel_rfl)) (by decide) (fun K hK => ?_)
               refine value_ (w1 := ?_) (v := ?_) (by rfl) rfl ?_ ?_
               rotate_left 2
               ·
                go_simp
                constructor
                · rfl
                · rfl
               refine hK.out _ _ ⟨(blk_cell (blk_alloc BK311.out _) 0).trans rfl, (blk_cell (blk_alloc BK311.out _) 1).trans rfl, (blk_cell (blk_alloc BK311.out _) 2).trans rfl, (World.cell?_alloc_lt _ _ _ (World.block_lt_of_cell? _ _ (hHeld.2.2.2.1))).trans (hHeld.2.2.2.1), (World.cell?_alloc_lt _ _ _ (World.block_lt_of_cell? _ _ (hHeld.2.2.2.2.1))).trans (hHeld.2.2.2.2.1), (World.cell?_alloc_lt _ _ _ (World.block_lt_of_cell? _ _ (hHeld.2.2.2.2.2.1))).trans (hHeld.2.2.2.2.2.1), (World.cell?_alloc_lt _ _ _ (World.block_lt_of_cell? _ _ (hHeld.2.2.2.2.2.2.1))).trans (hHeld.2.2.2.2.2.2.1), (World.cell?_alloc_lt _ _ _ (World.block_lt_of_cell? _ _ (hHeld.2.2.2.2.2.2.2))).trans (hHeld.2.2.2.2.2.2.2)⟩ (fun hHeld => ?_)
               clear hK K
               refine norm_ (a' := ?_) ?_ ?_
               rotate_left
               ·
                show Act.put _ (some 59) _ = _
                simp only [Act.put, zbj1, zbj2, zbj3, i64_w, i32_w]
                rfl
               refine last_ (i := 19) (N := some 60) zbjz34 rfl rfl (one_of HT_.out (by kernel_rfl)) (by decide) (fun K hK => ?_)
               refine Kd.R_append_step k47 (w0 := w) w.heap.size (by rfl) (.tmp 42) (.tmp 59) 25 47 (.agg #[(.int .i64 0), (.int .i64 0), (.int .i64 0), (.int .i64 0), (.int .i64 0)]) 40 rfl Tryz.underlying25 info47 rfl (by decide) (by omega) u312002 x312002_1 (⟨rd (rd_L6 t303 x7_1) 0, rd (rd_L6 t303 x7_1) 1, rd (rd_L6 t303 x7_1) 2, rd (rd_L6 t303 x7_1) 3, rd (rd_L6 t303 x7_1) 4⟩ : S47) [.int .i64 (rd (rd_L6 t303 x7_1) 0), .int .i64 (rd (rd_L6 t303 x7_1) 1), .int .i64 (rd (rd_L6 t303 x7_1) 2), .int .i64 (rd (rd_L6 t303 x7_1) 3), .int .i64 (rd (rd_L6 t303 x7_1) 4)] (fun _ => True) (fun _ => False) rfl rfl ?aP (fun _ hk => hk.elim) ?aF ?aO ?aB ?aS ?aL ?_
               (case aP => exact k47_mkM _ _ _ (⟨rd (rd_L6 t303 x7_1) 0, rd (rd_L6 t303 x7_1) 1, rd (rd_L6 t303 x7_1) 2, rd (rd_L6 t303 x7_1) 3, rd (rd_L6 t303 x7_1) 4⟩ : S47))
               (case aB => exact zB)
               (case aF => exact (fun _ _ => trivial))
               (case aO => exact (zR HO_312002))
               (case aS => exact (below_size zB))
               (case aL => have := LMc22.out; omega)
               intro v319 w24 ho hb hg hat
               rw [← Ny318.out] at ho
               have n0_ := Aside0.mk (Kd.S_over' (zS HO_4) (Kd.R_typed (zR HO_312002)) (by decide) hg)
               have n1_ := Aside0.mk (blk_grown (g := gb302) (o := .cells #[.int .i64 0, .int .i64 0, .slice none 0 0] 36 (0, 0)) (zK BK302) hg (Kd.R_ne HO_312002.out BK302.out (by decide)))
               have n2_ := Aside0.mk (blk_grown (g := gb311) (o := .cells #[.int .i64 (rd (rd_L6 t303 0) 0), .int .i64 (rd (rd_L6 t303 0) 1), u312002] 36 (0, 0)) (zK BK311) hg (Kd.R_ne HO_312002.out BK311.out (by decide)))
               have n3_ := Aside0.mk (Kd.R_over' (by (with_reducible repeat (first | apply Kd.R_alloc | apply Kd.R_drewN | apply Kd.R_drew)); exact HL312_0.out) (Kd.R_typed (zR HO_312002)) (by decide) hg)
               have n4_ := Aside0.mk (hb); have n5_ := Aside0.mk (ho); clear HO_4; clear BK302; clear BK311; clear HL312_0; clear HB; clear HO_312002; have HO_4 := n0_; have BK302 := n1_; have BK311 := n2_; have HL312_0 := n3_; have HB := n4_; have HO320 := n5_; clear n0_ n1_ n2_ n3_ n4_ n5_; clear ho hb hg hat; obtain ⟨Ao25, co25, eo25⟩ := Kd.R_slice HO320.out
               (first | subst eo25 | (injection eo25 with f1_ f2_ f3_; have f4_ := f1_.symm; have f5_ := f3_.symm; clear f1_ f2_ f3_; subst f4_; subst f5_))
               refine hK.out _ _ ?_
               clear hK K
               refine norm_ (a' := ?_) ?_ ?_
               rotate_left
               ·
                show Act.put _ (some 60) _ = _
                simp only [Act.put, zbj1, zbj2, zbj3, i64_w, i32_w]
                rfl
               refine zbjp 20 (some 61) zbjz35 rfl rfl (any_of HT_.out (by kernel_rfl)) zbjq (Or.inl ⟨by rfl, by intro w'; go_simp; with_reducible rfl⟩) (by simp only [Act.put, zbj1, zbj2, zbj3, i64_w, i32_w]; rfl) ?_
               refine last_ (i := 21) (N := none) zbjz36 rfl rfl (one_of HT_.out (by kernel_rfl)) (by decide) (fun K hK => ?_)
               have hs26 : w24.cell? ⟨gb311, 2, none⟩ = some (u312002) := (blk_cell BK311.out 2).trans rfl; have hfs26 := blk_frozen BK311.out 2; have hns26_0 := NB302_311.out; have hms26_0 := NB311_302.out
               refine skip_ (w1 := ?_) (by rfl) rfl ?_ ?_
               rotate_left
               · go_simp; rfl
               refine hK.out _ _ ?_
               clear hK K
               refine done_ (done_of HT_.out (by kernel_rfl)) ?_
               try go_wp2
               go_roundg k1
               case measure => have := HK1.out; omega
               case rel => exact ⟨(wrap64 (x7_1 + 1)), (y318), (.slice Ao25 y318.length co25), (by first | rfl | (simp; done) | (simp [*]; done)), H', ⟨by have := HK1.out; omega⟩, ⟨by (with_reducible repeat (first | apply Kd.S_alloc | apply Kd.S_drewN | apply Kd.S_drew)); exact Kd.S_mono (Kd.S_far (p := ⟨gb311, 2, none⟩) (Kd.S_types HO_4.out BK311.out (by decide)) (fun _ hk => hk.2) (.slice Ao25 y318.length co25)) (fun _ hk => trivial)⟩, ⟨by (with_reducible repeat (first | apply Kd.R_alloc | apply Kd.R_drewN | apply Kd.R_drew)); exact Kd.R_mono (Kd.R_far (p := ⟨gb311, 2, none⟩) (Kd.R_types HO320.out BK311.out (by decide)) (fun _ hk => hk.2) (.slice Ao25 y318.length co25)) (fun _ hk => trivial)⟩, ⟨zF BK302⟩, ⟨by (with_reducible repeat (first | apply blk_drewN | apply blk_drew | apply blk_alloc)); refine blk_put (cs := #[.int .i64 (rd (rd_L6 t303 0) 0), .int .i64 (rd (rd_L6 t303 0) 1), u312002]) ?_ 2 _ rfl; (with_reducible repeat (first | apply blk_drewN | apply blk_drew | apply blk_alloc)); exact BK311.out⟩, ⟨zB⟩⟩
              ·
               rw [if_neg c22] at H
               exact absurd H (by simp)
             ·
              rw [if_neg c21] at H
              exact absurd H (by simp)
            ·
             rw [if_neg c20] at H
             exact absurd H (by simp)
           ·
            rw [if_neg c19] at H
            exact absurd H (by simp)
          ·
           rw [if_neg c18] at H
           exact absurd H (by simp)
         ·
          rw [if_neg c17] at H
          exact absurd H (by simp)
        ·
         rw [if_neg c16] at H
         exact absurd H (by simp)
       ·
        rw [if_neg c15] at H
        have c15b0 : decide (x7_1 < (t303.length : Int)) = false := decide_eq_false c15; clear c15; replace H := Option.bind_eq_some_iff.mp H; obtain ⟨⟨t321, t322⟩, A270, H⟩ := H; replace H : (if t322 = 0 then (if t321.toList = a0.toList then (some ((rd (rd_L6 t303 0) 0), (rd (rd_L6 t303 0) 1), x312002_1, 0)) else (some (0, 0, ([] : List (S47)), 362))) else (some (0, 0, ([] : List (S47)), 362))) = some (r1, r2, r3, r4) := H; have A27 := Aside0.mk A270; clear A270
        by_cases c28 : t322 = 0
        ·
         rw [if_pos c28] at H
         have c28b0 : (t322 == 0) = true := beq_iff_eq.mpr c28; have c28b1 : (t322 != 0) = false := bne_eq_false_iff_eq.mpr c28; clear c28
         by_cases c29 : t321.toList = a0.toList
         ·
          rw [if_pos c29] at H
          have c29b0 : (t321.toList == a0.toList) = true := beq_iff_eq.mpr c29; have c29b1 : (t321.toList != a0.toList) = false := bne_eq_false_iff_eq.mpr c29; clear c29
          simp only [Option.some.injEq, Prod.mk.injEq] at H
          obtain ⟨rfl, rfl, rfl, rfl⟩ := H; have hnb30 := NB311_302.out; have hnc30 := NB302_311.out; obtain ⟨hcz31_0, hcz31_1, hcz31_2⟩ := zC3 BK311; obtain ⟨hfz31_0, hfz31_1, hfz31_2⟩ := zZ3 BK311; obtain ⟨Ao32, co32, eo32⟩ := Kd.R_slice HO_312002.out; subst eo32
          go_wp2_with (first | ((with_reducible refine gate_callee (f := 13) rfl ?_); refine goesL_ (some 64) rfl rfl Tryz.func13 (by kernel_rfl) rfl #[.agg #[.int .i64 (rd (rd_L6 t303 0) 0), .int .i64 (rd (rd_L6 t303 0) 1), .slice Ao32 x312002_1.length co32]] rfl (by (try simp only [List.map_toArray, List.map_cons, List.map_nil]); try rfl) ?_; (with_reducible refine (annuitantref36_Write.calls k1 (rd (rd_L6 t303 0) 0) (rd (rd_L6 t303 0) 1) _ _ x312002_1 t321 t322 _ ?side1 ?side2 A27.out).mono ?_); (case side1 => repeat (first | exact (Kd.R_reads' HO_312002.out).2.2 | (with_reducible refine Kd.C_alloc ?_ _) | (with_reducible refine Kd.C_drewN ?_ _) | (with_reducible refine Kd.C_drew ?_))); (case side2 => exact (Kd.R_reads' HO_312002.out).2.1); rintro e w33 ⟨rfl, hb⟩; refine ⟨_, rfl, ?_⟩; replace HO_4 := Aside0.mk (Kd.S_below (zS HO_4) hb); replace HO_312002 := Aside0.mk (Kd.R_below (zR HO_312002) hb); replace BK302 := zKb BK302 hb; replace BK311 := zKb BK311 hb; replace HB := zBs hb; (try clear hb); (try clear hb2); (try clear hk); (try clear hi); obtain ⟨hcz34_0, hcz34_1, hcz34_2⟩ := zC3 BK311; obtain ⟨hfz34_0, hfz34_1, hfz34_2⟩ := zZ3 BK311; obtain ⟨hcz35_0, hcz35_1, hcz35_2⟩ := zC3 BK302; obtain ⟨hfz35_0, hfz35_1, hfz35_2⟩ := zZ3 BK302))
          refine bodyPost_ret (results_ct rfl _ _ gb302 36 #[.int .i64 (rd (rd_L6 t303 0) 0), .int .i64 (rd (rd_L6 t303 0) 1), .slice Ao32 x312002_1.length co32] (0, 0) _ rfl (by (with_reducible repeat (first | apply blk_drewN | apply blk_drew | apply blk_alloc)); refine blk_put (cs := #[.int .i64 (rd (rd_L6 t303 0) 0), .int .i64 (rd (rd_L6 t303 0) 1), .slice none 0 0]) ?_ 2 _ rfl; (with_reducible repeat (first | apply blk_drewN | apply blk_drew | apply blk_alloc)); refine blk_put (cs := #[.int .i64 (rd (rd_L6 t303 0) 0), .int .i64 0, .slice none 0 0]) ?_ 1 _ rfl; (with_reducible repeat (first | apply blk_drewN | apply blk_drew | apply blk_alloc)); refine blk_put (cs := #[.int .i64 0, .int .i64 0, .slice none 0 0]) ?_ 0 _ rfl; (with_reducible repeat (first | apply blk_drewN | apply blk_drew | apply blk_alloc)); exact BK302.out) Tryz.underlying36 rfl (by kernel_rfl)) rfl ?_
          exact ⟨_, zE, by (with_reducible repeat (first | apply Kd.R_alloc | apply Kd.R_drewN | apply Kd.R_drew)); exact Kd.R_mono (Kd.R_far (p := ⟨gb302, 2, none⟩) (Kd.R_far (p := ⟨gb302, 1, none⟩) (Kd.R_far (p := ⟨gb302, 0, none⟩) (Kd.R_types HO_312002.out BK302.out (by decide)) (fun _ hk => hk.2) (.int .i64 (rd (rd_L6 t303 0) 0))) (fun _ hk => hk.2) (.int .i64 (rd (rd_L6 t303 0) 1))) (fun _ hk => hk.2) (.slice Ao32 x312002_1.length co32)) (fun _ hk => trivial), zB⟩
         ·
          rw [if_neg c29] at H
          have c29b0 : (t321.toList == a0.toList) = false := beq_eq_false_iff_ne.mpr c29; have c29b1 : (t321.toList != a0.toList) = true := bne_iff_ne.mpr c29
          simp only [Option.some.injEq, Prod.mk.injEq] at H
          obtain ⟨rfl, rfl, rfl, rfl⟩ := H; have hnb36 := NB311_302.out; have hnc36 := NB302_311.out; obtain ⟨hcz37_0, hcz37_1, hcz37_2⟩ := zC3 BK311; obtain ⟨hfz37_0, hfz37_1, hfz37_2⟩ := zZ3 BK311; obtain ⟨Ao38, co38, eo38⟩ := Kd.R_slice HO_312002.out; subst eo38
          go_wp2_with (first | ((with_reducible refine gate_callee (f := 13) rfl ?_); refine goesL_ (some 64) rfl rfl Tryz.func13 (by kernel_rfl) rfl #[.agg #[.int .i64 (rd (rd_L6 t303 0) 0), .int .i64 (rd (rd_L6 t303 0) 1), .slice Ao38 x312002_1.length co38]] rfl (by (try simp only [List.map_toArray, List.map_cons, List.map_nil]); try rfl) ?_; (with_reducible refine (annuitantref36_Write.calls k1 (rd (rd_L6 t303 0) 0) (rd (rd_L6 t303 0) 1) _ _ x312002_1 t321 t322 _ ?side1 ?side2 A27.out).mono ?_); (case side1 => repeat (first | exact (Kd.R_reads' HO_312002.out).2.2 | (with_reducible refine Kd.C_alloc ?_ _) | (with_reducible refine Kd.C_drewN ?_ _) | (with_reducible refine Kd.C_drew ?_))); (case side2 => exact (Kd.R_reads' HO_312002.out).2.1); rintro e w39 ⟨rfl, hb⟩; refine ⟨_, rfl, ?_⟩; replace HO_4 := Aside0.mk (Kd.S_below (zS HO_4) hb); replace HO_312002 := Aside0.mk (Kd.R_below (zR HO_312002) hb); replace BK302 := zKb BK302 hb; replace BK311 := zKb BK311 hb; replace HB := zBs hb; (try clear hb); (try clear hb2); (try clear hk); (try clear hi); obtain ⟨hcz40_0, hcz40_1, hcz40_2⟩ := zC3 BK302; obtain ⟨hfz40_0, hfz40_1, hfz40_2⟩ := zZ3 BK302))
          refine bodyPost_ret (results_ct rfl _ _ gb302 36 #[.int .i64 0, .int .i64 0, .slice none 0 0] (0, 0) _ rfl (by (with_reducible repeat (first | apply blk_drewN | apply blk_drew | apply blk_alloc)); refine blk_put (cs := #[.int .i64 0, .int .i64 0, .slice none 0 0]) ?_ 2 _ rfl; (with_reducible repeat (first | apply blk_drewN | apply blk_drew | apply blk_alloc)); refine blk_put (cs := #[.int .i64 0, .int .i64 0, .slice none 0 0]) ?_ 1 _ rfl; (with_reducible repeat (first | apply blk_drewN | apply blk_drew | apply blk_alloc)); refine blk_put (cs := #[.int .i64 0, .int .i64 0, .slice none 0 0]) ?_ 0 _ rfl; (with_reducible repeat (first | apply blk_drewN | apply blk_drew | apply blk_alloc)); exact BK302.out) Tryz.underlying36 rfl (by kernel_rfl)) rfl ?_
          exact ⟨_, zE, by first | exact Kd.R_nil _ _ _ _ _ | exact Kd.N_nil _ _ _ _ _ | exact Kd.V_nil _ _ _ _ _ | exact Kd.Q_nil _ _ _ _ _ | exact Kd.S_nil _ _ _ _ _, zB⟩
        ·
         rw [if_neg c28] at H
         have c28b0 : (t322 == 0) = false := beq_eq_false_iff_ne.mpr c28; have c28b1 : (t322 != 0) = true := bne_iff_ne.mpr c28
         simp only [Option.some.injEq, Prod.mk.injEq] at H
         obtain ⟨rfl, rfl, rfl, rfl⟩ := H; have hnb41 := NB311_302.out; have hnc41 := NB302_311.out; obtain ⟨hcz42_0, hcz42_1, hcz42_2⟩ := zC3 BK311; obtain ⟨hfz42_0, hfz42_1, hfz42_2⟩ := zZ3 BK311; obtain ⟨Ao43, co43, eo43⟩ := Kd.R_slice HO_312002.out; subst eo43
         go_wp2_with (first | ((with_reducible refine gate_callee (f := 13) rfl ?_); refine goesL_ (some 64) rfl rfl Tryz.func13 (by kernel_rfl) rfl #[.agg #[.int .i64 (rd (rd_L6 t303 0) 0), .int .i64 (rd (rd_L6 t303 0) 1), .slice Ao43 x312002_1.length co43]] rfl (by (try simp only [List.map_toArray, List.map_cons, List.map_nil]); try rfl) ?_; (with_reducible refine (annuitantref36_Write.calls k1 (rd (rd_L6 t303 0) 0) (rd (rd_L6 t303 0) 1) _ _ x312002_1 t321 t322 _ ?side1 ?side2 A27.out).mono ?_); (case side1 => repeat (first | exact (Kd.R_reads' HO_312002.out).2.2 | (with_reducible refine Kd.C_alloc ?_ _) | (with_reducible refine Kd.C_drewN ?_ _) | (with_reducible refine Kd.C_drew ?_))); (case side2 => exact (Kd.R_reads' HO_312002.out).2.1); rintro e w44 ⟨rfl, hb⟩; refine ⟨_, rfl, ?_⟩; replace HO_4 := Aside0.mk (Kd.S_below (zS HO_4) hb); replace HO_312002 := Aside0.mk (Kd.R_below (zR HO_312002) hb); replace BK302 := zKb BK302 hb; replace BK311 := zKb BK311 hb; replace HB := zBs hb; (try clear hb); (try clear hb2); (try clear hk); (try clear hi); obtain ⟨hcz45_0, hcz45_1, hcz45_2⟩ := zC3 BK302; obtain ⟨hfz45_0, hfz45_1, hfz45_2⟩ := zZ3 BK302))
         refine bodyPost_ret (results_ct rfl _ _ gb302 36 #[.int .i64 0, .int .i64 0, .slice none 0 0] (0, 0) _ rfl (by (with_reducible repeat (first | apply blk_drewN | apply blk_drew | apply blk_alloc)); refine blk_put (cs := #[.int .i64 0, .int .i64 0, .slice none 0 0]) ?_ 2 _ rfl; (with_reducible repeat (first | apply blk_drewN | apply blk_drew | apply blk_alloc)); refine blk_put (cs := #[.int .i64 0, .int .i64 0, .slice none 0 0]) ?_ 1 _ rfl; (with_reducible repeat (first | apply blk_drewN | apply blk_drew | apply blk_alloc)); refine blk_put (cs := #[.int .i64 0, .int .i64 0, .slice none 0 0]) ?_ 0 _ rfl; (with_reducible repeat (first | apply blk_drewN | apply blk_drew | apply blk_alloc)); exact BK302.out) Tryz.underlying36 rfl (by kernel_rfl)) rfl ?_
         exact ⟨_, zE, by first | exact Kd.R_nil _ _ _ _ _ | exact Kd.N_nil _ _ _ _ _ | exact Kd.V_nil _ _ _ _ _ | exact Kd.Q_nil _ _ _ _ _ | exact Kd.S_nil _ _ _ _ _, zB⟩
    ·
     rw [if_neg c6] at H
     exact absurd H (by simp)
   ·
    rw [if_neg c5] at H
    exact absurd H (by simp)
  ·
   rw [if_neg c4] at H
   exact absurd H (by simp)
 ·
  rw [if_neg c3] at H
  have c3b0 : (t304 == 0) = false := beq_eq_false_iff_ne.mpr c3; have c3b1 : (t304 != 0) = true := bne_iff_ne.mpr c3
  simp only [Option.some.injEq, Prod.mk.injEq] at H
  obtain ⟨rfl, rfl, rfl, rfl⟩ := H
  go_enter Tryz.func32, Tryz.ntmps32
  go_wp2_with (first | ((with_reducible refine gate_dst (N := 2) rfl ?_); refine box_event ?hg (N := 2) ?hd (cs := #[.int .i64 0, .int .i64 0, .slice none 0 0]) (t := 36) ?hr ?_; (case hd => rfl); (case hg => rfl); (case hr => first | (go_simp; done) | (go_simp; rfl)); intro gb302 hg w46 hbox hb; have BK302 := Aside0.mk (hbox); have GW302 := zG (w := w) hg; have GE302 := zG (w := w) hg; replace HB := zBs hb; clear hb hbox hg) | ((with_reducible refine gate_callee (f := 57) rfl ?_); refine goesL_ (some 13) rfl rfl Tryz.func57 (by kernel_rfl) rfl #[.string a0, .string (⟨#[80, 65, 89]⟩ : ByteArray), .int .i64 4, .string (⟨#[111, 114, 100, 101, 114]⟩ : ByteArray), .int .i64 5] rfl (by (try simp only [List.map_toArray, List.map_cons, List.map_nil]); try rfl) ?_; (with_reducible refine (annuitantref36_parse.calls k a0 (⟨#[80, 65, 89]⟩ : ByteArray) 4 (⟨#[111, 114, 100, 101, 114]⟩ : ByteArray) 5 t303 t304 _ A2.out).mono ?_); rintro e w47 ⟨v305, rfl, ho0, hb⟩; refine ⟨_, rfl, ?_⟩; have HO306 := Aside0.mk (Kd.S_lower ho0 (below_size zB)); replace BK302 := zKb BK302 hb; replace HB := zBs hb; (try clear hb); (try clear hb2); (try clear hk); (try clear hi); (try clear ho0); obtain ⟨hcz48_0, hcz48_1, hcz48_2⟩ := zC3 BK302; obtain ⟨hfz48_0, hfz48_1, hfz48_2⟩ := zZ3 BK302))
  refine bodyPost_ret (results_ct rfl _ _ gb302 36 #[.int .i64 0, .int .i64 0, .slice none 0 0] (0, 0) _ rfl (by (with_reducible repeat (first | apply blk_drewN | apply blk_drew | apply blk_alloc)); refine blk_put (cs := #[.int .i64 0, .int .i64 0, .slice none 0 0]) ?_ 2 _ rfl; (with_reducible repeat (first | apply blk_drewN | apply blk_drew | apply blk_alloc)); refine blk_put (cs := #[.int .i64 0, .int .i64 0, .slice none 0 0]) ?_ 1 _ rfl; (with_reducible repeat (first | apply blk_drewN | apply blk_drew | apply blk_alloc)); refine blk_put (cs := #[.int .i64 0, .int .i64 0, .slice none 0 0]) ?_ 0 _ rfl; (with_reducible repeat (first | apply blk_drewN | apply blk_drew | apply blk_alloc)); exact BK302.out) Tryz.underlying36 rfl (by kernel_rfl)) rfl ?_
  exact ⟨_, zE, by first | exact Kd.R_nil _ _ _ _ _ | exact Kd.N_nil _ _ _ _ _ | exact Kd.V_nil _ _ _ _ _ | exact Kd.Q_nil _ _ _ _ _ | exact Kd.S_nil _ _ _ _ _, zB⟩
end Go.Proofs.YtndojpcjhkncgaaGreatDoor.Q
end
