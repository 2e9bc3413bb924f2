/- Part 3 of a proof: the texts SFile, HRd2, HRd3, HRdA, HRdF, SBack, QFlaw36sameOrders, QFlaw36sameFile, QE78, QFlaw36sameAnswer, QFlaw36old, SSame, QFlaw36plain, put together by a program of this repo. -/
import Derived.Deep.AppendLies
import Derived.Deep.RegionWith
import Derived.Test.YtndojpcjhkncgaaGreatDoorMBack2
import Derived.Test.YtndojpcjhkncgaaGreatDoorMBack1

section
namespace Go.Proofs.YtndojpcjhkncgaaGreatDoor.Q
open Go Go.RowKit Go.Proofs.YtndojpcjhkncgaaGreatDoorW.PrintWords
set_option linter.unusedVariables false
set_option linter.unusedSimpArgs false
theorem readC_zero (ok : List (List UInt8) → List UInt8 → Bool) (t : List UInt8) : readC ok t = 0 ↔ t.length ≤ 1048576 ∧ formB t = true ∧ allOk ok [] (linesOf t) = true ∧ t.drop (t.length - 22) = endL (t.take (t.length - 22)) := by
  unfold readC
  constructor
  · intro h
    split at h
    · cases h
    · split at h
      · split at h
        · split at h
          · exact ⟨by omega, by assumption, by assumption, by assumption⟩
          · cases h
        · cases h
      · cases h
  · rintro ⟨h1, h2, h3, h4⟩
    rw [if_neg (by omega), if_pos h2, if_pos h3, if_pos h4]
theorem flatL_cons (l : List UInt8) (ls : List (List UInt8)) : flatL (l :: ls) = l ++ [10] ++ flatL ls := by unfold flatL; rw [List.flatMap_cons]
theorem hex_all : ∀ (j n : Nat), (hexR j n).all hexB = true
  | 0, _ => rfl
  | j + 1, n => by
    rw [hexR, List.all_append, hex_all j]
    have h : ∀ k : Fin 16, hexB (dig k.val) = true := by decide
    have := h ⟨n % 16, Nat.mod_lt _ (by omega)⟩
    simpa using this
theorem closed_end (l : List UInt8) : closedF (endL l) = true := by
  have h1 := hex8_len (sA l % 4294967296) (Nat.mod_lt _ (by omega))
  have h2 := hex8_len (sW 0 l % 4294967296) (Nat.mod_lt _ (by omega))
  have a1 := hex_all 8 (sA l % 4294967296)
  have a2 := hex_all 8 (sW 0 l % 4294967296)
  rw [hexR_8 _ (Nat.mod_lt _ (by omega))] at a1 a2
  obtain ⟨f1, f2, _⟩ := end_fields l
  have he : endL l = [69, 78, 68, 32] ++ hex8 (sA l % 4294967296) ++ [32] ++ hex8 (sW 0 l % 4294967296) ++ [10] := by unfold endL; rw [sums0]
  have e12 : (endL l)[12]? = some 32 := by
    rw [he, List.getElem?_append_left (by simp [h1, h2]), List.getElem?_append_left (by simp [h1]), List.getElem?_append_right (by simp [h1])]
    simp [h1]
  have e21 : (endL l)[21]? = some 10 := by
    rw [he, List.getElem?_append_right (by simp [h1, h2])]
    simp [h1, h2]
  have e4 : (endL l).take 4 = [69, 78, 68, 32] := by rw [he]; rfl
  unfold closedF
  rw [e4, e12, e21, f1, f2, List.all_append, a1, a2]
  rfl
theorem words_of_flat (w : List UInt8) (ws : List (List UInt8)) (x : List UInt8) (hw : (10 : UInt8) ∉ w) (hws : ∀ y ∈ ws, (10 : UInt8) ∉ y) (h : flatL (w :: ws) = x ++ [10]) : wordsL 10 x = w :: ws := by
  have gen : ∀ (t : List (List UInt8)) (a : List UInt8), flatL (a :: t) = a ++ t.flatMap (fun x => 10 :: x) ++ [10] := by
    intro t
    induction t with
    | nil => intro a; simp [flatL]
    | cons b t ih =>
      intro a
      rw [flatL_cons, ih b, List.flatMap_cons]
      simp
  rw [gen ws w] at h
  have hx := (List.append_inj' h rfl).1
  rw [← hx]
  exact words_joined 10 ws w hw hws
theorem numsL_no (c : UInt8) (ns : List Int) (h : c ≠ 45) (h32 : c ≠ 32) (h2 : c.toNat < 48 ∨ 57 < c.toNat) : c ∉ numsL ns := by
  intro hm
  unfold numsL at hm
  obtain ⟨n, _, hn⟩ := List.mem_flatMap.mp hm
  rcases List.mem_cons.mp hn with e | e
  · exact h32 e
  · exact itoa_no c n h h2 e
theorem flat_lines (w1 w2 : List UInt8) (a : List Int) (rs : List (List Int)) : lineL w1 a ++ rs.flatMap (lineL w2) = flatL ((w1 ++ numsL a) :: rs.map (fun r => w2 ++ numsL r)) := by
  rw [flatL_cons]
  unfold flatL
  rw [List.flatMap_map]
  rfl
theorem text_lines (w1 w2 : List UInt8) (hw1 : (10 : UInt8) ∉ w1) (hw2 : (10 : UInt8) ∉ w2) (a : List Int) (rs : List (List Int)) :
    linesOf ((lineL w1 a ++ rs.flatMap (lineL w2)) ++ endL (lineL w1 a ++ rs.flatMap (lineL w2))) = (w1 ++ numsL a) :: rs.map (fun r => w2 ++ numsL r) ∧ formB ((lineL w1 a ++ rs.flatMap (lineL w2)) ++ endL (lineL w1 a ++ rs.flatMap (lineL w2))) = true ∧
      ∃ x, lineL w1 a ++ rs.flatMap (lineL w2) = x ++ [10] := by
  obtain ⟨x, hx⟩ : ∃ x, lineL w1 a ++ rs.flatMap (lineL w2) = x ++ [10] := by
    rw [flat_lines]
    have gen : ∀ (t : List (List UInt8)) (a : List UInt8), ∃ x, flatL (a :: t) = x ++ [10] := by
      intro t
      induction t with
      | nil => intro a; exact ⟨a, by simp [flatL]⟩
      | cons b t ih =>
        intro a
        obtain ⟨x, hx⟩ := ih b
        exact ⟨a ++ [10] ++ x, by rw [flatL_cons, hx]; simp⟩
    exact gen _ _
  have hH : lineL w1 a ++ rs.flatMap (lineL w2) = flatL ((w1 ++ numsL a) :: rs.map (fun r => w2 ++ numsL r)) := flat_lines w1 w2 a rs
  generalize lineL w1 a ++ rs.flatMap (lineL w2) = H at hx hH ⊢
  have hl : (H ++ endL H).length = x.length + 23 := by rw [List.length_append, endL_len, hx, List.length_append]; rfl
  have hlH : H.length = x.length + 1 := by rw [hx, List.length_append]; rfl
  refine ⟨?_, ?_, x, hx⟩
  · unfold linesOf
    rw [hl, Nat.add_sub_cancel, List.take_append_of_le_length (by omega), hx, List.take_left' rfl]
    refine words_of_flat _ _ x ?_ ?_ (by rw [← hH, hx])
    · intro hm
      rcases List.mem_append.mp hm with e | e
      · exact hw1 e
      · exact numsL_no 10 a (by decide) (by decide) (by decide) e
    · intro y hy hm
      obtain ⟨r, _, rfl⟩ := List.mem_map.mp hy
      rcases List.mem_append.mp hm with e | e
      · exact hw2 e
      · exact numsL_no 10 r (by decide) (by decide) (by decide) e
  · unfold formB
    rw [hl, show x.length + 23 - 22 = H.length by omega, List.drop_left' rfl, closed_end, show x.length + 23 - 23 = x.length by omega, List.getElem?_append_left (by omega), hx, List.getElem?_append_right (by omega), Nat.sub_self]
    simp
theorem scans_mk (w : List UInt8) (hw : (32 : UInt8) ∉ w) (m : Nat) : ∀ (rs : List (List Int)), (∀ r ∈ rs, r.length = m ∧ ∀ n ∈ r, numIn n = true) → scansF w m (rs.map (fun r => w ++ numsL r)) = some rs
  | [], _ => rfl
  | r :: rs, h => by
    rw [List.map_cons, scansF, scans_mk w hw m rs (fun r hr => h r (List.mem_cons_of_mem _ hr)), (scanF_iff _ w hw m r).mpr ⟨rfl, h r List.mem_cons_self⟩]
theorem text_read (w1 w2 : List UInt8) (hw1 : (32 : UInt8) ∉ w1) (hw2 : (32 : UInt8) ∉ w2) (h10 : (10 : UInt8) ∉ w1) (h11 : (10 : UInt8) ∉ w2) (m1 m2 : Nat) (a : List Int) (rs : List (List Int)) (ha : a.length = m1 ∧ ∀ n ∈ a, numIn n = true) (hr : ∀ r ∈ rs, r.length = m2 ∧ ∀ n ∈ r, numIn n = true)
    (hl : ((lineL w1 a ++ rs.flatMap (lineL w2)) ++ endL (lineL w1 a ++ rs.flatMap (lineL w2))).length ≤ 1048576) :
    readC (lineOk w1 m1 w2 m2) ((lineL w1 a ++ rs.flatMap (lineL w2)) ++ endL (lineL w1 a ++ rs.flatMap (lineL w2))) = 0 ∧
      linesOf ((lineL w1 a ++ rs.flatMap (lineL w2)) ++ endL (lineL w1 a ++ rs.flatMap (lineL w2))) = (w1 ++ numsL a) :: rs.map (fun r => w2 ++ numsL r) ∧ scanF (w1 ++ numsL a) w1 m1 = some a ∧ scansF w2 m2 (rs.map (fun r => w2 ++ numsL r)) = some rs := by
  obtain ⟨h1, h2, _⟩ := text_lines w1 w2 h10 h11 a rs
  have s1 := (scanF_iff (w1 ++ numsL a) w1 hw1 m1 a).mpr ⟨rfl, ha⟩
  have s2 := scans_mk w2 hw2 m2 rs hr
  refine ⟨(readC_zero _ _).mpr ⟨hl, h2, ?_, ?_⟩, h1, s1, s2⟩
  · rw [h1, allOk_rows, rowsF, s1, s2]
    rfl
  · rw [List.length_append, endL_len, Nat.add_sub_cancel, List.drop_left' rfl, List.take_left' rfl]
theorem text_other (w1 w2 : List UInt8) (h10 : (10 : UInt8) ∉ w1) (h11 : (10 : UInt8) ∉ w2) (v1 v2 : List UInt8) (hv1 : (32 : UInt8) ∉ v1) (n1 n2 : Nat) (c d : UInt8) (x y : List UInt8) (e1 : w1 = c :: x) (e2 : v1 = d :: y) (hcd : c ≠ d) (a : List Int) (rs : List (List Int))
    (hl : ((lineL w1 a ++ rs.flatMap (lineL w2)) ++ endL (lineL w1 a ++ rs.flatMap (lineL w2))).length ≤ 1048576) :
    readC (lineOk v1 n1 v2 n2) ((lineL w1 a ++ rs.flatMap (lineL w2)) ++ endL (lineL w1 a ++ rs.flatMap (lineL w2))) = 360 := by
  obtain ⟨h1, h2, _⟩ := text_lines w1 w2 h10 h11 a rs
  have s1 : scanF (w1 ++ numsL a) v1 n1 = none := by
    cases h : scanF (w1 ++ numsL a) v1 n1 with
    | none => rfl
    | some ns =>
      have := ((scanF_iff _ v1 hv1 n1 ns).mp h).1
      rw [e1, e2, List.cons_append, List.cons_append] at this
      injection this with e _
      exact absurd e hcd
  unfold readC
  rw [if_neg (by omega), if_pos h2, h1, allOk_rows, rowsF, s1]
  rfl
end Go.Proofs.YtndojpcjhkncgaaGreatDoor.Q
end

section
namespace Go.Proofs.YtndojpcjhkncgaaGreatDoor.Q
open Go Go.RowKit Go.Proofs.YtndojpcjhkncgaaGreatDoorW.PrintWords Go.Proofs.YtndojpcjhkncgaaGreatDoorW.PrintLast Go.Proofs.YtndojpcjhkncgaaGreatDoorW.PrintMore
set_option linter.unusedVariables false
set_option linter.unusedSimpArgs false
theorem owns_keep {w w' : World} {base : Nat} {e : TypeId} {size : Nat} {v : Value} {n : Nat} {xs : List Value} (h : w.ownsRow base e size v n xs) (hk : ∀ k, base ≤ k → k < w.heap.size → w'.heap[k]? = w.heap[k]?) : w'.ownsRow base e size v n xs := by
  refine ⟨h.1, ?_⟩
  rcases h.2 with h2 | ⟨g, cap, cur, h1, h2, h3, h4⟩
  · exact .inl h2
  · exact .inr ⟨g, cap, cur, h1, h2, (hk g h2 (blk_lt h3)).trans h3, h4⟩
theorem owns_ne {w : World} {base : Nat} {e : TypeId} {size : Nat} {v : Value} {n : Nat} {xs : List Value} (h : w.ownsRow base e size v n xs) (k : Nat) (hk : k < base) : some k ≠ v.ownBlock := by
  rcases h.2 with ⟨h1, _⟩ | ⟨g, cap, cur, h1, h2, _⟩
  · rw [h1]
    exact fun e => by cases e
  · rw [h1]
    intro e
    have : k = g := by injection e
    omega
theorem set_at {α : Type} (xs ys : List α) (i : Nat) (v : α) : (xs ++ ys).set (xs.length + i) v = xs ++ ys.set i v := by
  rw [List.set_append_right _ _ (by omega), Nat.add_sub_cancel_left]
theorem owns_set5 {W : World} {base g cap n : Nat} {xs zs : List Value} {t : TypeId} (h : W.ownsRow base t 5 (.slice (some ⟨g, 0, none⟩) (n + 1) cap) (n + 1) (xs ++ zs)) (hx : xs.length = n * 5) (ns : List Int) (hn : ns.length = 5) :
    (setAll W ([(g, n * 5), (g, n * 5 + 1), (g, n * 5 + 2), (g, n * 5 + 3), (g, n * 5 + 4)].zip ns)).ownsRow base t 5 (.slice (some ⟨g, 0, none⟩) (n + 1) cap) (n + 1) (xs ++ ns.map (Value.int .i64)) := by
  obtain ⟨x0, x1, x2, x3, x4, rfl⟩ : ∃ x0 x1 x2 x3 x4, ns = [x0, x1, x2, x3, x4] := by
    match ns, hn with
    | [x0, x1, x2, x3, x4], _ => exact ⟨x0, x1, x2, x3, x4, rfl⟩
  have hz : zs.length = 5 := by
    have := h.1
    rw [List.length_append, hx] at this
    omega
  rcases h.2 with ⟨h0, _⟩ | ⟨g', cap', cur, he, hb, hg, h1, h2, h3, h4⟩
  · cases h0
  · obtain ⟨rfl, rfl⟩ : g = g' ∧ cap = cap' := by injection he with e1 e2 e3; injection e1 with e1; injection e1 with e1; exact ⟨e1, e3⟩
    obtain ⟨rest, hr⟩ : ∃ rest, cur.toList = xs ++ zs ++ rest := ⟨cur.toList.drop ((n + 1) * 5), by rw [← h4, List.take_append_drop]⟩
    obtain ⟨z0, z1, z2, z3, z4, rfl⟩ : ∃ z0 z1 z2 z3 z4, zs = [z0, z1, z2, z3, z4] := by
      match zs, hz with
      | [z0, z1, z2, z3, z4], _ => exact ⟨z0, z1, z2, z3, z4, rfl⟩
    refine ⟨by simp [hx]; omega, .inr ⟨g, cap, _, rfl, hb, blk_put (blk_put (blk_put (blk_put (blk_put hg (n * 5) (.int .i64 x0) rfl) (n * 5 + 1) (.int .i64 x1) rfl) (n * 5 + 2) (.int .i64 x2) rfl) (n * 5 + 3) (.int .i64 x3) rfl) (n * 5 + 4) (.int .i64 x4) rfl, h1, h2, by simp [h3], ?_⟩⟩
    simp only [Array.toList_setIfInBounds]
    rw [hr, ← hx, List.append_assoc]
    have e0 := set_at xs ([z0, z1, z2, z3, z4] ++ rest) 0 (.int .i64 x0)
    rw [Nat.add_zero] at e0
    rw [e0, set_at, set_at, set_at, set_at]
    have hl : (n + 1) * 5 = (xs ++ [Value.int .i64 x0, .int .i64 x1, .int .i64 x2, .int .i64 x3, .int .i64 x4]).length := by rw [List.length_append, hx]; simp; omega
    rw [hl]
    show List.take _ (xs ++ ([Value.int .i64 x0, .int .i64 x1, .int .i64 x2, .int .i64 x3, .int .i64 x4] ++ rest)) = _
    rw [← List.append_assoc, List.take_left']
    · rfl
    · rfl
set_option maxHeartbeats 1000000 in
set_option maxRecDepth 100000 in
theorem read2_go (l : List UInt8) (hl : l.length ≤ 1048576) (w0 w : World) (hG0 : GG w0) (hlow : Below w0.heap.size w0 w) (bf base : Nat) (a b v : Value) (n : Nat) (xs : List Value)
    (hf : w.heap[bf]? = some (.cells #[a, b, v] 27 (0, 0))) (b1 : w0.heap.size ≤ bf) (b2 : bf < base) (b3 : base ≤ w.heap.size) (hn : n ≤ 1048576) (hown : w.ownsRow base 47 5 v n xs) :
    Calls Tryz.prog 50 #[.string (Bt l), .pointer (some ⟨bf, 0, none⟩)] w fun e w' =>
      ∃ v', e = .returned (.bool (scanF l orderW 5).isSome) ∧ (∀ ns, scanF l orderW 5 = some ns → w'.ownsRow base 47 5 v' (n + 1) (xs ++ ns.map (Value.int .i64))) ∧
        w'.heap[bf]? = some (.cells #[a, b, v'] 27 (0, 0)) ∧ (∀ k, k < base → k ≠ bf → w'.heap[k]? = w.heap[k]?) ∧ Below w0.heap.size w0 w' ∧ w.heap.size ≤ w'.heap.size := by
  have lf := blk_lt hf
  have c2 : w.cell? ⟨bf, 2, none⟩ = some v := blk_cell hf 2
  obtain ⟨i0, hi, hz0, hz1, hz2⟩ := info_parts info47
  have HO := Lib.hid hown
  have HL := Lib.hid hlow
  have HF := Lib.hid hf
  clear hown hlow hf
  go_enter Tryz.func50, Tryz.ntmps50
  go_wp2_with (at_builtin; refine wpList_append_lies _ rfl _ _ 25 rfl base 47 i0 _ 5 40 Tryz.underlying25 hi hz0 hz1 hz2 rfl (by decide) v n xs rfl (owns_keep HO.out (fun k _ hk => (below_alloc (below_alloc (Below.refl w.heap.size w) _) _).block k hk)) ⟨w.heap.size + 1, 0, none⟩ 1 1 [.int .i64 0, .int .i64 0, .int .i64 0, .int .i64 0, .int .i64 0] ?c1 rfl ?c2 ?c3 (by decide) ?c4 ?c5 ?c6 _ rfl ?_)
  case c1 => rfl
  case c2 => exact World.news_of_block (B := w.heap.size + 1) (cs := #[.int .i64 0, .int .i64 0, .int .i64 0, .int .i64 0, .int .i64 0]) (by rw [← World.size_alloc w (.cells #[.int .i64 0, .int .i64 0, .int .i64 0, .int .i64 0, .int .i64 0] 47)]; exact blk_new _ _)
  case c3 => intro u hu; simp at hu; subst hu; rfl
  case c4 => unfold maxLen; omega
  case c5 => omega
  case c6 => simp; omega
  intro g cap w1 hown1 hgrow hat hlt
  have hb0 := below_alloc (below_alloc (Below.refl w.heap.size w) (.cells #[.int .i64 0, .int .i64 0, .int .i64 0, .int .i64 0, .int .i64 0] 47)) (.cells #[.int .i64 0, .int .i64 0, .int .i64 0, .int .i64 0, .int .i64 0] 47)
  have hf1 : w1.heap[bf]? = some (.cells #[a, b, v] 27 (0, 0)) := (hgrow.block bf (by simp; omega) (owns_ne HO.out bf b2)).trans ((hb0.block bf lf).trans HF.out)
  have hk1 : ∀ k, k < base → w1.heap[k]? = w.heap[k]? := fun k hk => (hgrow.block k (by simp; omega) (owns_ne HO.out k hk)).trans (hb0.block k (by omega))
  have hl1 : Below w0.heap.size w0 w1 := HL.out.trans ⟨hgrow.os.trans hb0.os, hgrow.tape.trans hb0.tape, hgrow.output.trans hb0.output, Nat.le_trans hb0.size hgrow.size, fun k hk => hk1 k (by omega)⟩
  have hs1 : w.heap.size ≤ w1.heap.size := Nat.le_trans hb0.size hgrow.size
  obtain ⟨v', hv'⟩ : ∃ v' : Value, v' = .slice (some ⟨g, 0, none⟩) (n + 1) cap := ⟨_, rfl⟩
  have d2 : w1.cell? ⟨bf, 2, none⟩ = some v := blk_cell hf1 2
  have f2 : w1.frozen? ⟨bf, 2, none⟩ = false := blk_frozen hf1 2
  have hf2 := blk_put hf1 2 (.slice (some ⟨g, 0, none⟩) (n + 1) cap) rfl
  have e2 : (w1.setCell ⟨bf, 2, none⟩ (.slice (some ⟨g, 0, none⟩) (n + 1) cap)).cell? ⟨bf, 2, none⟩ = some (.slice (some ⟨g, 0, none⟩) (n + 1) cap) := blk_cell hf2 2
  have HO1 := Lib.hid hown1
  have HK1 := Lib.hid hk1
  have HL1 := Lib.hid hl1
  have HS1 := Lib.hid hs1
  have HF2 := Lib.hid hf2
  have HG := Lib.hid hlt
  clear hown1 hgrow hat hb0 hk1 hl1 hs1 hf2 hf1 c2 hlt HO HL HF hi hz0 hz1 hz2
  have k1 : wrap64 (((n + 1 : Nat) : Int) - 1) = (n : Int) := by rw [IntWalk.wrap64_in _ ⟨by omega, by omega⟩]; omega
  have k2 : (n : Int) < ((n + 1 : Nat) : Int) := by omega
  have k3 : (0 : Int) ≤ (n : Int) := by omega
  go_wp2_with fail
  have own2 : (w1.setCell ⟨bf, 2, none⟩ (.slice (some ⟨g, 0, none⟩) (n + 1) cap)).ownsRow base 47 5 (.slice (some ⟨g, 0, none⟩) (n + 1) cap) (n + 1) (xs ++ [.int .i64 0, .int .i64 0, .int .i64 0, .int .i64 0, .int .i64 0]) :=
    owns_keep HO1.out (fun k hk _ => Below.heap_setCell _ _ _ _ (by show k ≠ bf; omega))
  have hk2 : ∀ k, k < base → k ≠ bf → (w1.setCell ⟨bf, 2, none⟩ (.slice (some ⟨g, 0, none⟩) (n + 1) cap)).heap[k]? = w.heap[k]? := fun k hk hne => (Below.heap_setCell _ _ _ _ hne).trans (HK1.out k hk)
  have hl2 : Below w0.heap.size w0 (w1.setCell ⟨bf, 2, none⟩ (.slice (some ⟨g, 0, none⟩) (n + 1) cap)) := HL1.out.setCell (p := ⟨bf, 2, none⟩) b1 _
  have hs2 : w.heap.size ≤ (w1.setCell ⟨bf, 2, none⟩ (.slice (some ⟨g, 0, none⟩) (n + 1) cap)).heap.size := by simpa [World.setCell] using HS1.out
  have hf2 : (w1.setCell ⟨bf, 2, none⟩ (.slice (some ⟨g, 0, none⟩) (n + 1) cap)).heap[bf]? = some (.cells #[a, b, .slice (some ⟨g, 0, none⟩) (n + 1) cap] 27 (0, 0)) := HF2.out
  clear HO1 HK1 HL1 HS1 HF2 d2 f2 e2 HG
  generalize w1.setCell ⟨bf, 2, none⟩ (.slice (some ⟨g, 0, none⟩) (n + 1) cap) = w2 at own2 hk2 hl2 hs2 hf2 ⊢
  obtain ⟨hxl, hbg, cur, hcur, hcs⟩ : xs.length = n * 5 ∧ base ≤ g ∧ ∃ cur, w2.heap[g]? = some (.cells cur 47 (0, 0)) ∧ n * 5 + 5 ≤ cur.size := by
    have h0 := own2.1
    rw [List.length_append] at h0
    simp only [List.length_cons, List.length_nil] at h0
    rcases own2.2 with ⟨h1, _⟩ | ⟨g', cap', cur, he, hb, hg, h1, h2, h3, h4⟩
    · cases h1
    · obtain ⟨rfl, rfl⟩ : g = g' ∧ cap = cap' := by injection he with e1 e2 e3; injection e1 with e1; injection e1 with e1; exact ⟨e1, e3⟩
      exact ⟨by omega, hb, cur, hg, by rw [h3]; omega⟩
  have hS : Calls Tryz.prog 49 #[.string (Bt l), .string ⟨#[111, 114, 100, 101, 114]⟩, .slice (some ⟨w2.heap.size, 0, none⟩) 5 5] (w2.drew.alloc (.cells #[.pointer (some ⟨g, n * 5, none⟩), .pointer (some ⟨g, n * 5 + 1, none⟩), .pointer (some ⟨g, n * 5 + 2, none⟩), .pointer (some ⟨g, n * 5 + 3, none⟩), .pointer (some ⟨g, n * 5 + 4, none⟩)] 90 (0, 0))) _ :=
    scan_go l orderW hl [(g, n * 5), (g, n * 5 + 1), (g, n * 5 + 2), (g, n * 5 + 3), (g, n * 5 + 4)] (by show 5 ≤ 100; decide) w2.drew.heap.size w0 _ hG0 (below_alloc hl2.drew _) (blk_new w2.drew _) (by
      intro p hp
      have hg := blk_lt hcur
      simp only [List.mem_cons, List.not_mem_nil, or_false] at hp
      have : p.1 = g ∧ p.2 < n * 5 + 5 := by rcases hp with rfl | rfl | rfl | rfl | rfl <;> exact ⟨rfl, by simp⟩
      obtain ⟨e1, e2⟩ := this
      rw [e1]
      exact ⟨by show g ≠ w2.heap.size; omega, by omega, cur, _, blk_alloc (blk_drew hcur) _, by omega⟩)
  have HS := Lib.hid hS
  have HO2 := Lib.hid own2
  have HK2 := Lib.hid hk2
  have HL2 := Lib.hid hl2
  have HS2 := Lib.hid hs2
  have HF2 := Lib.hid hf2
  have HC := Lib.hid (And.intro hxl (And.intro hbg (blk_lt hcur)))
  clear hS own2 hk2 hl2 hs2 hf2 hxl hbg hcur hcs k1 k2 k3
  go_region_with (go_at_call 49; refine HS.out.mono ?_; rintro e w' ⟨ms, rfl, hm1, hm2, hb⟩)
  have hx : ∀ x ∈ [(g, n * 5), (g, n * 5 + 1), (g, n * 5 + 2), (g, n * 5 + 3), (g, n * 5 + 4)].zip ms, x.1.1 = g := by
    intro x hx
    have hx := (List.of_mem_zip hx).1
    simp only [List.mem_cons, List.not_mem_nil, or_false] at hx
    rcases hx with e | e | e | e | e <;> rw [e]
  have hC := HC.out
  have hB : Below w2.heap.size (setAll w2 ([(g, n * 5), (g, n * 5 + 1), (g, n * 5 + 2), (g, n * 5 + 3), (g, n * 5 + 4)].zip ms)) w' :=
    (setAll_both _ (below_alloc (below_drew (Below.refl w2.heap.size w2)) _) (fun x h => by rw [hx x h]; exact hC.2.2)).trans (hb.mono (by simp))
  have q1 : ∀ ns, scanF l orderW 5 = some ns → w'.ownsRow base 47 5 (.slice (some ⟨g, 0, none⟩) (n + 1) cap) (n + 1) (xs ++ ns.map (Value.int .i64)) := fun ns h => by
    have e := hm2 ns h
    subst e
    exact owns_keep (owns_set5 HO2.out hC.1 ms (scanF_len _ _ _ _ h)) (fun k _ hk => hB.block k (by rwa [setAll_size] at hk))
  have q2 : ∀ k, k < base → w'.heap[k]? = w2.heap[k]? := fun k hk => (hB.block k (by omega)).trans (setAll_other _ _ _ (fun x h => by rw [hx x h]; omega))
  have q3 : Below w0.heap.size w0 w' := (HL2.out.trans (setAll_below _ _ _ (fun x h => by rw [hx x h]; omega))).trans (hB.mono (by have := HL2.out.size; omega))
  have q4 : w.heap.size ≤ w'.heap.size := by have h1 := HS2.out; have h2 := hB.size; rw [setAll_size] at h2; omega
  have Q := Lib.hid (And.intro q1 (And.intro ((q2 bf b2).trans HF2.out) (And.intro (fun k (hk : k < base) (hne : k ≠ bf) => (q2 k hk).trans (HK2.out k hk hne)) (And.intro q3 q4))))
  clear hx hC hB q1 q2 q3 q4 hm1 hm2 hb HS HO2 HK2 HL2 HS2 HF2 HC
  go_wp2_with fail
  go_ret
  refine ⟨.slice (some ⟨g, 0, none⟩) (n + 1) cap, by simp [Act.put], Q.out⟩
end Go.Proofs.YtndojpcjhkncgaaGreatDoor.Q
end

section
namespace Go.Proofs.YtndojpcjhkncgaaGreatDoor.Q
open Go Go.RowKit Go.Proofs.YtndojpcjhkncgaaGreatDoorW.PrintWords Go.Proofs.YtndojpcjhkncgaaGreatDoorW.PrintLast Go.Proofs.YtndojpcjhkncgaaGreatDoorW.PrintMore
set_option linter.unusedVariables false
set_option linter.unusedSimpArgs false
theorem two_set (W : World) (r : Nat) (t : TypeId) (h : W.heap[r]? = some (.cells #[.int .i64 0, .int .i64 0] t (0, 0))) (ms : List Int) (hm : ms.length ≤ 2) :
    ∃ x0 x1, (setAll W ([(r, 0), (r, 1)].zip ms)).heap[r]? = some (.cells #[.int .i64 x0, .int .i64 x1] t (0, 0)) ∧ (ms.length = 2 → ms = [x0, x1]) := by
  match ms, hm with
  | [], _ => exact ⟨0, 0, h, fun e => by cases e⟩
  | [m0], _ => exact ⟨m0, 0, blk_put h 0 (.int .i64 m0) rfl, fun e => by cases e⟩
  | [m0, m1], _ => exact ⟨m0, m1, blk_put (blk_put h 0 (.int .i64 m0) rfl) 1 (.int .i64 m1) rfl, fun e => rfl⟩
  | _ :: _ :: _ :: _, h => exact absurd h (by simp)
set_option maxHeartbeats 1000000 in
set_option maxRecDepth 100000 in
theorem answer2_go (l : List UInt8) (hl : l.length ≤ 1048576) (w0 w : World) (hG0 : GG w0) (hlow : Below w0.heap.size w0 w) (bf base : Nat) (a b v : Value) (n : Nat) (xs : List Value)
    (hf : w.heap[bf]? = some (.cells #[a, b, v] 30 (0, 0))) (b1 : w0.heap.size ≤ bf) (b2 : bf < base) (b3 : base ≤ w.heap.size) (hn : n ≤ 1048576) (hown : w.ownsRow base 49 2 v n xs) :
    Calls Tryz.prog 52 #[.string (Bt l), .pointer (some ⟨bf, 0, none⟩)] w fun e w' =>
      ∃ v', e = .returned (.bool (scanF l returnW 2).isSome) ∧ (∀ ns, scanF l returnW 2 = some ns → w'.ownsRow base 49 2 v' (n + 1) (xs ++ ns.map (Value.int .i64))) ∧
        w'.heap[bf]? = some (.cells #[a, b, v'] 30 (0, 0)) ∧ (∀ k, k < base → k ≠ bf → w'.heap[k]? = w.heap[k]?) ∧ Below w0.heap.size w0 w' ∧ w.heap.size ≤ w'.heap.size := by
  have lf := blk_lt hf
  obtain ⟨i0, hi, hz0, hz1, hz2⟩ := info_parts info49
  have hr1 : ((w.alloc (.cells #[.int .i64 0, .int .i64 0] 49 (0, 0))).alloc (.cells #[.pointer (some ⟨w.heap.size, 0, none⟩), .pointer (some ⟨w.heap.size, 1, none⟩)] 90 (0, 0))).heap[w.heap.size]? = some (.cells #[.int .i64 0, .int .i64 0] 49 (0, 0)) := blk_alloc (blk_new w _) _
  have hb1 : Below w.heap.size w ((w.alloc (.cells #[.int .i64 0, .int .i64 0] 49 (0, 0))).alloc (.cells #[.pointer (some ⟨w.heap.size, 0, none⟩), .pointer (some ⟨w.heap.size, 1, none⟩)] 90 (0, 0))) := ((Below.refl _ w).alloc (Nat.le_refl _) _).alloc (by simp) _
  have hsz1 : (w.alloc (.cells #[.int .i64 0, .int .i64 0] 49 (0, 0))).heap.size = w.heap.size + 1 := by simp
  have hS : Calls Tryz.prog 49 #[.string (Bt l), .string ⟨#[114, 101, 116, 117, 114, 110]⟩, .slice (some ⟨w.heap.size + 1, 0, none⟩) 2 2] ((w.alloc (.cells #[.int .i64 0, .int .i64 0] 49 (0, 0))).alloc (.cells #[.pointer (some ⟨w.heap.size, 0, none⟩), .pointer (some ⟨w.heap.size, 1, none⟩)] 90 (0, 0))) _ :=
    scan_go l returnW hl [(w.heap.size, 0), (w.heap.size, 1)] (by show 2 ≤ 100; decide) (w.heap.size + 1) w0 _ hG0 (hlow.trans (hb1.mono hlow.size)) (by rw [← hsz1]; exact blk_new _ _) (by
      intro p hp
      simp only [List.mem_cons, List.not_mem_nil, or_false] at hp
      have : p.1 = w.heap.size ∧ p.2 < 2 := by rcases hp with rfl | rfl <;> exact ⟨rfl, by simp⟩
      obtain ⟨e1, e2⟩ := this
      rw [e1]
      exact ⟨by omega, hlow.size, _, _, hr1, e2⟩)
  have HS := Lib.hid hS
  have HO := Lib.hid hown
  have HL := Lib.hid hlow
  have HF := Lib.hid hf
  have HR1 := Lib.hid hr1
  have HB1 := Lib.hid hb1
  clear hS hown hlow hf hr1 hb1 hsz1
  go_enter Tryz.func52, Tryz.ntmps52
  go_wp2_with fail
  refine HS.out.mono ?_
  rintro e w3 ⟨ms, rfl, hm1, hm2, hb⟩
  obtain ⟨x0, x1, hx, hm3⟩ := two_set _ _ _ HR1.out ms hm1
  have hsz : ((w.alloc (.cells #[.int .i64 0, .int .i64 0] 49 (0, 0))).alloc (.cells #[.pointer (some ⟨w.heap.size, 0, none⟩), .pointer (some ⟨w.heap.size, 1, none⟩)] 90 (0, 0))).heap.size = w.heap.size + 2 := by simp
  rw [hsz] at hb
  have hr3 : w3.heap[w.heap.size]? = some (.cells #[.int .i64 x0, .int .i64 x1] 49 (0, 0)) := (hb.block _ (by omega)).trans hx
  have hz : ∀ y ∈ [(w.heap.size, 0), (w.heap.size, 1)].zip ms, y.1.1 = w.heap.size := by
    intro y hy
    have hy := (List.of_mem_zip hy).1
    simp only [List.mem_cons, List.not_mem_nil, or_false] at hy
    rcases hy with e | e <;> rw [e]
  have hk3 : Below w.heap.size w w3 := (HB1.out.trans (setAll_below _ _ _ (fun y hy => Nat.le_of_eq (hz y hy).symm))).trans (hb.mono (by omega))
  have hns : ∀ ns, scanF l returnW 2 = some ns → ns = [x0, x1] := fun ns h => by
    have e := hm2 ns h
    subst e
    exact hm3 (scanF_len _ _ _ _ h)
  have hf3 := (hk3.block bf lf).trans HF.out
  have c2 : w3.cell? ⟨bf, 2, none⟩ = some v := blk_cell hf3 2
  have r0 : w3.cell? ⟨w.heap.size, 0, none⟩ = some (.int .i64 x0) := blk_cell hr3 0
  have r1 : w3.cell? ⟨w.heap.size, 1, none⟩ = some (.int .i64 x1) := blk_cell hr3 1
  have HO3 := Lib.hid (owns_keep HO.out (fun k _ hk => hk3.block k hk))
  have HK3 := Lib.hid hk3
  have HF3 := Lib.hid hf3
  have HNS := Lib.hid hns
  have hs3 := hk3.size
  clear hb hx hm1 hm2 hm3 hsz hr3 hz hk3 hf3 hns HS HR1 HB1
  go_wp2_with (at_builtin; refine wpList_append_lies _ rfl _ _ 28 rfl base 49 i0 _ 2 16 Tryz.underlying28 hi hz0 hz1 hz2 rfl (by decide) v n xs rfl (owns_keep HO3.out (fun k _ hk => (below_alloc (Below.refl w3.heap.size w3) _).block k hk)) ⟨w3.heap.size, 0, none⟩ 1 1 [.int .i64 x0, .int .i64 x1] ?c1 rfl ?c2 ?c3 (by decide) ?c4 ?c5 ?c6 _ rfl ?_)
  case c1 => rfl
  case c2 => exact World.news_of_block (B := w3.heap.size) (cs := #[.int .i64 x0, .int .i64 x1]) (blk_new _ _)
  case c3 => intro u hu; simp at hu; rcases hu with rfl | rfl <;> rfl
  case c4 => unfold maxLen; omega
  case c5 => omega
  case c6 => simp; omega
  intro g cap w4 hown4 hgrow hat hlt
  have hb0 := below_alloc (Below.refl w3.heap.size w3) (.cells #[.int .i64 x0, .int .i64 x1] 49)
  have hk4 : ∀ k, k < base → w4.heap[k]? = w3.heap[k]? := fun k hk => (hgrow.block k (by simp; omega) (owns_ne HO3.out k hk)).trans (hb0.block k (by omega))
  have hf4 : w4.heap[bf]? = some (.cells #[a, b, v] 30 (0, 0)) := (hk4 bf b2).trans HF3.out
  have hs4 : w3.heap.size ≤ w4.heap.size := Nat.le_trans hb0.size hgrow.size
  have hl4 : Below w0.heap.size w3 w4 := ⟨hgrow.os.trans hb0.os, hgrow.tape.trans hb0.tape, hgrow.output.trans hb0.output, hs4, fun k hk => hk4 k (by omega)⟩
  have d2 : w4.cell? ⟨bf, 2, none⟩ = some v := blk_cell hf4 2
  have f2 : w4.frozen? ⟨bf, 2, none⟩ = false := blk_frozen hf4 2
  have hf5 := blk_put hf4 2 (.slice (some ⟨g, 0, none⟩) (n + 1) cap) rfl
  have own5 : (w4.setCell ⟨bf, 2, none⟩ (.slice (some ⟨g, 0, none⟩) (n + 1) cap)).ownsRow base 49 2 (.slice (some ⟨g, 0, none⟩) (n + 1) cap) (n + 1) (xs ++ [.int .i64 x0, .int .i64 x1]) :=
    owns_keep hown4 (fun k hk _ => Below.heap_setCell _ _ _ _ (by show k ≠ bf; omega))
  have q1 : ∀ k, k < base → k ≠ bf → (w4.setCell ⟨bf, 2, none⟩ (.slice (some ⟨g, 0, none⟩) (n + 1) cap)).heap[k]? = w.heap[k]? := fun k hk hne => (Below.heap_setCell _ _ _ _ hne).trans ((hk4 k hk).trans (HK3.out.block k (by omega)))
  have q2 : Below w0.heap.size w0 (w4.setCell ⟨bf, 2, none⟩ (.slice (some ⟨g, 0, none⟩) (n + 1) cap)) := ((HL.out.trans (HK3.out.mono HL.out.size)).trans hl4).setCell (p := ⟨bf, 2, none⟩) b1 _
  have hs5 : w.heap.size ≤ w4.heap.size := by omega
  have q3 : w.heap.size ≤ (w4.setCell ⟨bf, 2, none⟩ (.slice (some ⟨g, 0, none⟩) (n + 1) cap)).heap.size := by simpa [World.setCell] using hs5
  have Q := Lib.hid (And.intro (fun ns (h : scanF l returnW 2 = some ns) => show (w4.setCell ⟨bf, 2, none⟩ (.slice (some ⟨g, 0, none⟩) (n + 1) cap)).ownsRow base 49 2 (.slice (some ⟨g, 0, none⟩) (n + 1) cap) (n + 1) (xs ++ ns.map (Value.int .i64)) by rw [HNS.out ns h]; exact own5) (And.intro (show _ = some (Obj.cells #[a, b, .slice (some ⟨g, 0, none⟩) (n + 1) cap] 30 (0, 0)) from hf5) (And.intro q1 (And.intro q2 q3))))
  clear hs5 hown4 hgrow hat hlt hb0 hk4 hf4 hs4 hl4 hf5 own5 q1 q2 q3 c2 r0 r1 HO3 HK3 HF3 HNS hs3 HO HL HF hi hz0 hz1 hz2
  go_wp2_with fail
  go_ret
  exact ⟨.slice (some ⟨g, 0, none⟩) (n + 1) cap, rfl, Q.out⟩
end Go.Proofs.YtndojpcjhkncgaaGreatDoor.Q
end

section
namespace Go.Proofs.YtndojpcjhkncgaaGreatDoor.Q
open Go Go.RowKit Go.Proofs.YtndojpcjhkncgaaGreatDoorW.PrintWords Go.Proofs.YtndojpcjhkncgaaGreatDoorW.PrintLast Go.Proofs.YtndojpcjhkncgaaGreatDoorW.PrintMore
set_option linter.unusedVariables false
set_option linter.unusedSimpArgs false
def toRet (r : List Int) : S49 := ⟨r.getD 0 0, r.getD 1 0⟩
def retCells (o : S49) : List Value := [.int .i64 o.f0, .int .i64 o.f1]
def answerSt : List (List UInt8) → Option (Int × Int × Int × List S49)
  | [] => some (0, 0, 0, [])
  | l :: ls => match scanF l backL 3, scansF returnW 2 ls with | some h, some rs => some (h.getD 0 0, h.getD 1 0, h.getD 2 0, rs.map toRet) | _, _ => none
abbrev answerOk := lineOk backL 3 returnW 2
def answerR (t : List UInt8) : Int × Int × List S49 × Int :=
  if readC answerOk t = 0 then
    match answerSt (linesOf t) with
    | some (n, d, k, L) => if rightB n d L = true then (if k = (L.length : Int) then (n, d, L, 0) else (0, 0, [], 362)) else (0, 0, [], 362)
    | none => (0, 0, [], 0)
  else (0, 0, [], readC answerOk t)
theorem scansF_len (w : List UInt8) (m : Nat) : ∀ (ls : List (List UInt8)) (rs : List (List Int)), scansF w m ls = some rs → rs.length = ls.length
  | [], rs, h => by cases h; rfl
  | l :: ls, rs, h => by
    rw [scansF] at h
    cases h1 : scanF l w m with
    | none => rw [h1] at h; cases h
    | some r =>
      cases h2 : scansF w m ls with
      | none => rw [h1, h2] at h; cases h
      | some s =>
        rw [h1, h2] at h
        cases h
        rw [List.length_cons, List.length_cons, scansF_len w m ls s h2]
theorem answerSt_some (l : List UInt8) (ls : List (List UInt8)) (n d k : Int) (L : List S49) (h : answerSt (l :: ls) = some (n, d, k, L)) : ∃ a rs, scanF l backL 3 = some a ∧ scansF returnW 2 ls = some rs ∧ n = a.getD 0 0 ∧ d = a.getD 1 0 ∧ k = a.getD 2 0 ∧ L = rs.map toRet := by
  have h : (match scanF l backL 3, scansF returnW 2 ls with | some h, some rs => some (h.getD 0 0, h.getD 1 0, h.getD 2 0, rs.map toRet) | _, _ => none) = some (n, d, k, L) := h
  cases h1 : scanF l backL 3 with
  | none => rw [h1] at h; cases h
  | some a =>
    cases h2 : scansF returnW 2 ls with
    | none => rw [h1, h2] at h; cases h
    | some rs =>
      rw [h1, h2] at h
      cases h
      exact ⟨a, rs, rfl, rfl, rfl, rfl, rfl, rfl⟩
theorem answerSt_mk (l : List UInt8) (ls : List (List UInt8)) (a : List Int) (rs : List (List Int)) (h1 : scanF l backL 3 = some a) (h2 : scansF returnW 2 ls = some rs) : answerSt (l :: ls) = some (a.getD 0 0, a.getD 1 0, a.getD 2 0, rs.map toRet) := by
  show (match scanF l backL 3, scansF returnW 2 ls with | some h, some rs => some (h.getD 0 0, h.getD 1 0, h.getD 2 0, rs.map toRet) | _, _ => none) = _
  rw [h1, h2]
theorem answerSt_snoc (pre : List (List UInt8)) (hp : pre ≠ []) (x : List UInt8) (n d k : Int) (L : List S49) (r : List Int) (h : answerSt pre = some (n, d, k, L)) (hx : scanF x returnW 2 = some r) : answerSt (pre ++ [x]) = some (n, d, k, L ++ [toRet r]) := by
  cases pre with
  | nil => exact absurd rfl hp
  | cons l ls =>
    obtain ⟨a, rs, h1, h2, rfl, rfl, rfl, rfl⟩ := answerSt_some l ls n d k L h
    rw [List.cons_append, answerSt_mk l (ls ++ [x]) a (rs ++ [r]) h1 (by rw [scansF_snoc, h2, hx])]
    simp
theorem answerSt_len (pre : List (List UInt8)) (n d k : Int) (L : List S49) (h : answerSt pre = some (n, d, k, L)) : L.length ≤ pre.length := by
  cases pre with
  | nil => unfold answerSt at h; cases h; exact Nat.le_refl _
  | cons l ls =>
    obtain ⟨a, rs, h1, h2, rfl, rfl, rfl, rfl⟩ := answerSt_some l ls n d k L h
    have := scansF_len returnW 2 ls rs h2
    rw [List.length_map, List.length_cons]
    omega
def AI (w0 : World) (ba bc B1 : Nat) (pre : List (List UInt8)) (W : World) : Prop :=
  Below w0.heap.size w0 W ∧ ∃ n d k L v, answerSt pre = some (n, d, k, L) ∧ W.heap[ba]? = some (.cells #[.int .i64 n, .int .i64 d, v] 30 (0, 0)) ∧ W.heap[bc]? = some (.cells #[.int .i64 k] 3 (0, 0)) ∧ W.ownsRow B1 49 2 v L.length (L.flatMap retCells)
theorem AI_out {w0 w : World} {ba bc B1 : Nat} {pre : List (List UInt8)} {A B : World} (h0 : w0.heap.size ≤ w.heap.size) (ha : ba < w.heap.size) (hc : bc < w.heap.size) (h : AI w0 ba bc B1 pre A) (ho : OutN w.heap.size B1 A B) : AI w0 ba bc B1 pre B := by
  obtain ⟨h1, n, d, k, L, v, h2, h3, h4, h5⟩ := h
  refine ⟨h1.trans ⟨ho.os, ho.tape, ho.output, ho.size, fun k hk => ho.same k (by have := h1.size; omega) (by omega)⟩, n, d, k, L, v, h2, (ho.same _ (blk_lt h3) (.inl ha)).trans h3, (ho.same _ (blk_lt h4) (.inl hc)).trans h4, owns_keep h5 (fun k hk hl => ho.same k hl (.inr hk))⟩
theorem answer_round (w0 w : World) (hG0 : GG w0) (h0 : w0.heap.size ≤ w.heap.size) (ba bc : Nat) (hba : w0.heap.size ≤ ba) (hbc : w0.heap.size ≤ bc) (hba2 : ba < w.heap.size) (hbc2 : bc < w.heap.size) (hne : ba ≠ bc) (B1 : Nat) (pre : List (List UInt8)) (x : List UInt8) (W : World)
    (hB : w.heap.size ≤ B1) (hBW : B1 ≤ W.heap.size) (hpl : pre.length ≤ 1048576) (hxl : x.length ≤ 1048576) (h : AI w0 ba bc B1 pre W) :
    Calls Tryz.prog (if pre = [] then 51 else 52) (#[.string (Bt x)] ++ (if pre = [] then #[.pointer (some ⟨ba, 0, none⟩), .pointer (some ⟨bc, 0, none⟩)] else #[.pointer (some ⟨ba, 0, none⟩)])) W fun e W' =>
      e = .returned (.bool (answerOk pre x)) ∧ (answerOk pre x = true → AI w0 ba bc B1 (pre ++ [x]) W') ∧ (∀ k, w.heap.size ≤ k → k < B1 → W'.heap[k]? = W.heap[k]?) ∧ Below w0.heap.size w0 W' ∧ W.heap.size ≤ W'.heap.size := by
  obtain ⟨h1, n, d, k, L, v, h2, h3, h4, h5⟩ := h
  by_cases hp : pre = []
  · subst hp
    rw [if_pos rfl, if_pos rfl]
    refine (answer1_go x hxl w0 W hG0 h1 ba bc _ _ _ _ h3 h4 (by show 1 < 3; omega) (by show 0 < 1; omega) hba hbc).mono ?_
    rintro e W' ⟨ms, rfl, hm1, hm2, hb⟩
    have hok : answerOk [] x = (scanF x backL 3).isSome := by unfold answerOk lineOk; rw [if_pos rfl]
    have hz : ∀ y ∈ [(ba, 0), (ba, 1), (bc, 0)].zip ms, y.1.1 = ba ∨ y.1.1 = bc := by
      intro y hy
      have hy := (List.of_mem_zip hy).1
      simp only [List.mem_cons, List.not_mem_nil, or_false] at hy
      rcases hy with e | e | e <;> rw [e] <;> simp
    have hs : W.heap.size ≤ W'.heap.size := by have := hb.size; rwa [setAll_size] at this
    refine ⟨by rw [hok], ?_, fun k hk hk2 => (hb.block k (by omega)).trans (setAll_other _ _ _ (fun y hy => by have := hz y hy; omega)), (h1.trans (setAll_below _ _ _ (fun y hy => by have := hz y hy; omega))).trans (hb.mono (by have := h1.size; omega)), hs⟩
    intro hok2
    rw [hok] at hok2
    obtain ⟨ns, hns⟩ := Option.isSome_iff_exists.mp hok2
    have e := hm2 ns hns
    subst e
    obtain ⟨a0, a1, a2, rfl⟩ : ∃ a0 a1 a2, ms = [a0, a1, a2] := by
      match ms, scanF_len _ _ _ _ hns with
      | [a0, a1, a2], _ => exact ⟨a0, a1, a2, rfl⟩
    unfold answerSt at h2
    cases h2
    have hL := blk_lt h3
    have hL2 := blk_lt h4
    refine ⟨(h1.trans (setAll_below _ _ _ (fun y hy => by have := hz y hy; omega))).trans (hb.mono (by have := h1.size; omega)), a0, a1, a2, [], v, ?_, ?_, ?_, ?_⟩
    · exact answerSt_mk x [] [a0, a1, a2] [] hns rfl
    · refine (hb.block ba hL).trans ?_
      exact (Below.heap_setCell _ _ _ _ hne).trans (blk_put (blk_put h3 0 (.int .i64 a0) rfl) 1 (.int .i64 a1) rfl)
    · refine (hb.block bc hL2).trans ?_
      exact blk_put (((Below.heap_setCell _ _ _ _ hne.symm).trans ((Below.heap_setCell _ _ _ _ hne.symm))).trans h4) 0 (.int .i64 a2) rfl
    · exact owns_keep h5 (fun k hk hl => (hb.block k hl).trans (setAll_other _ _ _ (fun y hy => by have := hz y hy; omega)))
  · rw [if_neg hp, if_neg hp]
    have hll := answerSt_len pre n d k L h2
    refine (answer2_go x hxl w0 W hG0 h1 ba B1 _ _ v L.length (L.flatMap retCells) h3 hba (by omega) hBW (by omega) h5).mono ?_
    rintro e W' ⟨v', rfl, hv, hf, hk, hl, hs⟩
    have hok : answerOk pre x = (scanF x returnW 2).isSome := by unfold answerOk lineOk; rw [if_neg hp]
    refine ⟨by rw [hok], ?_, fun k hk1 hk2 => hk k hk2 (by omega), hl, hs⟩
    intro hok2
    rw [hok] at hok2
    obtain ⟨ns, hns⟩ := Option.isSome_iff_exists.mp hok2
    have ho := hv ns hns
    obtain ⟨a0, a1, rfl⟩ : ∃ a0 a1, ns = [a0, a1] := by
      match ns, scanF_len _ _ _ _ hns with
      | [a0, a1], _ => exact ⟨a0, a1, rfl⟩
    refine ⟨hl, n, d, k, L ++ [toRet [a0, a1]], v', answerSt_snoc pre hp x n d k L _ h2 hns, hf, (hk bc (by omega) hne.symm).trans h4, ?_⟩
    rw [List.length_append, List.flatMap_append]
    exact ho
theorem results_row_tmp {P : Program} {fn : Func} {p u : Tmp} {ty : TypeId} (h : fn.results = #[.cell p ty, .tmp u]) (tmps : Array Value) (w : World) (g : Nat) (t : TypeId) (cs : Array Value) (fr : Nat × Nat) (d : TypeDesc)
    (hp : tmps.getD p undef = .pointer (some ⟨g, 0, none⟩)) (hg : w.heap[g]? = some (.cells cs t fr))
    (hu : P.underlying ty = some d) (hd : (match d with | .struct _ | .array _ _ => true | _ => false) = true) (hi : (P.info? ty).map (·.size) = some cs.size) :
    (results fn tmps).run P w = .ok (.tuple #[.agg cs, tmps.getD u undef]) w := by
  rw [results_cell_tmp h, hp]
  simp [asAddr, run_loadVar_row w g t ty cs fr d hg hu hd hi, Result.andThen]
theorem own_ret {w : World} {base : Nat} {v : Value} : ∀ (L : List S49), w.ownsRow base 49 2 v L.length (L.flatMap retCells) → Kd.R k49 49 w base (fun _ => True) v L := by
  intro L h
  refine ⟨fun _ _ => trivial, _, h, ?_⟩
  have gen : ∀ (b a : List S49), Reps (k49.M w base (fun k => True ∧ some k ≠ v.ownBlock)) 2 a (a.flatMap retCells) → Reps (k49.M w base (fun k => True ∧ some k ≠ v.ownBlock)) 2 (a ++ b) ((a ++ b).flatMap retCells) := by
    intro b
    induction b with
    | nil => intro a h; rw [List.append_nil]; exact h
    | cons x b ih =>
      intro a h
      have h2 := ih (a ++ [x]) (by rw [List.flatMap_append]; exact Reps.snoc h (k49_mkM w base _ x) rfl)
      rwa [List.append_assoc] at h2
  exact gen L [] (Reps.none _ _)
theorem lines_len (t : List UInt8) (h : t.length ≤ 4611686018427387904) : (linesOf t).length ≤ 4611686018427387904 := by
  have h1 := flatL_le (linesOf t)
  have h2 : flatL (linesOf t) = t.take (t.length - 23) ++ [10] := by unfold flatL linesOf; rw [words_flat]
  rw [h2, List.length_append, List.length_take, List.length_singleton] at h1
  omega
set_option maxHeartbeats 2000000 in
set_option maxRecDepth 100000 in
theorem readAnswer_go (t : List UInt8) (ht : t.length ≤ 4611686018427387904) (n d : Int) (L : List S49) (err : Int) (hr : answerR t = (n, d, L, err)) (w : World) (hG : GG w) :
    Calls Tryz.prog 25 #[.string (Bt t)] w fun e w' => ∃ v, e = .returned (.tuple #[.agg #[.int .i64 n, .int .i64 d, v], .int .i64 err]) ∧ Kd.R k49 49 w' w.heap.size (fun _ => True) v L ∧ Below w.heap.size w w' := by
  obtain ⟨w1, hw1⟩ : ∃ w1, w1 = w.alloc (.cells #[.int .i64 0, .int .i64 0, .slice none 0 0] 30 (0, 0)) := ⟨_, rfl⟩
  obtain ⟨w3, hw3⟩ : ∃ w3, w3 = (w1.alloc (.cells #[.int .i64 0, .int .i64 0, .slice none 0 0] 30 (0, 0))).alloc (.cells #[.int .i64 0] 3 (0, 0)) := ⟨_, rfl⟩
  have hs1 : w1.heap.size = w.heap.size + 1 := by rw [hw1]; simp
  have hs3 : w3.heap.size = w.heap.size + 3 := by rw [hw3]; simp [hs1]
  have hb1 : Below w.heap.size w w1 := by rw [hw1]; exact (Below.refl _ w).alloc (Nat.le_refl _) _
  have hb3 : Below w1.heap.size w1 w3 := by rw [hw3]; exact ((Below.refl _ w1).alloc (Nat.le_refl _) _).alloc (by simp) _
  have hr1 : w1.heap[w.heap.size]? = some (.cells #[.int .i64 0, .int .i64 0, .slice none 0 0] 30 (0, 0)) := by rw [hw1]; exact blk_new w _
  have ha3 : w3.heap[w.heap.size + 1]? = some (.cells #[.int .i64 0, .int .i64 0, .slice none 0 0] 30 (0, 0)) := by
    rw [hw3, ← hs1]
    exact blk_alloc (blk_new w1 _) _
  have hc3 : w3.heap[w.heap.size + 2]? = some (.cells #[.int .i64 0] 3 (0, 0)) := by
    have h := blk_new (w1.alloc (.cells #[.int .i64 0, .int .i64 0, .slice none 0 0] 30 (0, 0))) (.cells #[.int .i64 0] 3 (0, 0))
    rw [World.size_alloc, hs1, ← hw3] at h
    exact h
  have hG1 : GG w1 := hG.below hb1
  have hRead : Calls Tryz.prog 47 #[.string (Bt t), .func (.func 51) #[] #[.pointer (some ⟨w.heap.size + 1, 0, none⟩), .pointer (some ⟨w.heap.size + 2, 0, none⟩)], .func (.func 52) #[] #[.pointer (some ⟨w.heap.size + 1, 0, none⟩)]] w3 fun e w' =>
      e = .returned (.int .i64 (readC answerOk t)) ∧ Below w1.heap.size w1 w' ∧ (readC answerOk t = 0 → ∃ B1, w3.heap.size ≤ B1 ∧ AI w1 (w.heap.size + 1) (w.heap.size + 2) B1 (linesOf t) w') :=
    read_go 10 t ht w1 w3 hG1 hb3 _ _ _ _ (enters_of Tryz.func51 (by kernel_rfl) rfl) (enters_of Tryz.func52 (by kernel_rfl) rfl) answerOk (AI w1 (w.heap.size + 1) (w.heap.size + 2))
      (fun B1 W hB hb => ⟨hb3.trans (hb.mono (by omega)), 0, 0, 0, [], .slice none 0 0, rfl, (hb.block _ (by omega)).trans ha3, (hb.block _ (by omega)).trans hc3, ⟨rfl, .inl ⟨rfl, rfl⟩⟩⟩)
      (fun B1 pre A B h ho => AI_out (by omega) (by omega) (by omega) h ho) (fun B1 pre W h => h.1)
      (fun B1 pre x W h1 h2 h3 h4 h5 => answer_round w1 w3 hG1 (by omega) _ _ (by omega) (by omega) (by omega) (by omega) (by omega) B1 pre x W h1 h2 h3 h4 h5)
  have HRead := Lib.hid hRead
  have HR := Lib.hid hr
  have HB1 := Lib.hid hb1
  have HR1 := Lib.hid hr1
  have HS1 := Lib.hid hs1
  have HG := Lib.hid hG
  have e3 : ((w.alloc (.cells #[.int .i64 0, .int .i64 0, .slice none 0 0] 30 (0, 0))).alloc (.cells #[.int .i64 0, .int .i64 0, .slice none 0 0] 30 (0, 0))).alloc (.cells #[.int .i64 0] 3 (0, 0)) = w3 := by rw [hw3, hw1]
  have HE3 := Lib.hid e3
  have HS3 := Lib.hid hs3
  clear hRead hr hb1 hr1 hs1 hs3 hb3 ha3 hc3 hG hG1 hw3 e3 hw1
  go_enter Tryz.func25, Tryz.ntmps25
  go_wp2_with fail
  rw [HE3.out]
  refine HRead.out.mono ?_
  rintro e w5 ⟨rfl, hb5, hst⟩
  have hl1 := HS1.out
  have hr5 : w5.heap[w.heap.size]? = some (.cells #[.int .i64 0, .int .i64 0, .slice none 0 0] 30 (0, 0)) := (hb5.block _ (by omega)).trans HR1.out
  have hlow := below_then HB1.out HB1.out.size hb5
  have HLow := Lib.hid hlow
  have HST := Lib.hid hst
  have HR5 := Lib.hid hr5
  obtain ⟨c, hc⟩ : ∃ c, c = readC answerOk t := ⟨_, rfl⟩
  rw [← hc]
  by_cases h0 : c = 0
  · subst h0
    obtain ⟨B1, hB1, _, n', d', k', L', v', g2, g3, g4, g5⟩ := hst hc.symm
    have hR := own_ret L' g5
    obtain ⟨A, cc, rfl, hle, hC⟩ := Kd.R_reads hR
    have hLl := Nat.le_trans (answerSt_len _ _ _ _ _ g2) (lines_len t ht)
    obtain ⟨kk, hkk⟩ := Right_ev n' d' L' (by omega)
    have hRight : Calls Tryz.prog 28 #[.agg #[.int .i64 n', .int .i64 d', .slice A L'.length cc]] w5 fun e w' => e = .returned (.bool (rightB n' d' L')) ∧ Below w5.heap.size w5 w' := bank_Right.calls kk n' d' A cc L' _ w5 hC hle (hkk kk (Nat.le_refl _))
    have hcase : (n, d, L, err) = if rightB n' d' L' = true then (if k' = (L'.length : Int) then (n', d', L', 0) else (0, 0, [], 362)) else (0, 0, [], 362) := by
      rw [← HR.out]
      unfold answerR
      rw [if_pos hc.symm, g2]
    have HCase := Lib.hid hcase
    have HRight := Lib.hid hRight
    have HRR := Lib.hid hR
    have HG3 := Lib.hid (And.intro g3 g4)
    have a0 : w5.cell? ⟨w.heap.size + 1, 0, none⟩ = some (.int .i64 n') := blk_cell g3 0
    have a1 : w5.cell? ⟨w.heap.size + 1, 1, none⟩ = some (.int .i64 d') := blk_cell g3 1
    have a2 : w5.cell? ⟨w.heap.size + 1, 2, none⟩ = some (.slice A L'.length cc) := blk_cell g3 2
    obtain ⟨rb, hrb⟩ : ∃ rb, rb = rightB n' d' L' := ⟨_, rfl⟩
    rw [← hrb] at HRight HCase
    have HB1' := Lib.hid (show w.heap.size ≤ B1 by have := HS3.out; omega)
    have HCc := Lib.hid hc
    clear hc hB1 hRight hcase g2 g3 g4 g5 hR hle hC hkk hLl hrb hr5 hlow hst hb5
    go_wp2_with fail
    refine HRight.out.mono ?_
    rintro e w6 ⟨rfl, hb6⟩
    have g3 := (hb6.block _ (blk_lt HG3.out.1)).trans HG3.out.1
    have g4 := (hb6.block _ (blk_lt HG3.out.2)).trans HG3.out.2
    have g5 := (hb6.block _ (blk_lt HR5.out)).trans HR5.out
    have a0 : w6.cell? ⟨w.heap.size + 1, 0, none⟩ = some (.int .i64 n') := blk_cell g3 0
    have a1 : w6.cell? ⟨w.heap.size + 1, 1, none⟩ = some (.int .i64 d') := blk_cell g3 1
    have a2 : w6.cell? ⟨w.heap.size + 1, 2, none⟩ = some (.slice A L'.length cc) := blk_cell g3 2
    have a3 : w6.cell? ⟨w.heap.size + 1 + 1, 0, none⟩ = some (.int .i64 k') := blk_cell g4 0
    have r0 : w6.cell? ⟨w.heap.size, 0, none⟩ = some (.int .i64 0) := blk_cell g5 0
    have r1 : w6.cell? ⟨w.heap.size, 1, none⟩ = some (.int .i64 0) := blk_cell g5 1
    have r2 : w6.cell? ⟨w.heap.size, 2, none⟩ = some (.slice none 0 0) := blk_cell g5 2
    have f0 : w6.frozen? ⟨w.heap.size, 0, none⟩ = false := blk_frozen g5 0
    have f1 : w6.frozen? ⟨w.heap.size, 1, none⟩ = false := blk_frozen g5 1
    have f2 : w6.frozen? ⟨w.heap.size, 2, none⟩ = false := blk_frozen g5 2
    have HLow6 := Lib.hid (below_then HLow.out HLow.out.size hb6)
    have HRR6 := Lib.hid (Kd.R_below HRR.out hb6)
    have HG5 := Lib.hid g5
    clear g3 g4 g5 hb6 HRight HG3 HRR
    cases rb with
    | false =>
      go_wp2_with fail
      obtain ⟨rfl, rfl, rfl, rfl⟩ : n = 0 ∧ d = 0 ∧ L = [] ∧ err = 362 := by simpa using HCase.out
      refine bodyPost_ret (results_row_tmp rfl _ _ w.heap.size _ #[.int .i64 0, .int .i64 0, .slice none 0 0] (0, 0) _ rfl (blk_put (blk_put (blk_put HG5.out 0 _ rfl) 1 _ rfl) 2 _ rfl) Tryz.underlying30 rfl (by kernel_rfl)) rfl ?_
      exact ⟨.slice none 0 0, rfl, Kd.R_nil _ _ _ _ _, ((HLow6.out.setCell (p := ⟨w.heap.size, 0, none⟩) (Nat.le_refl _) _).setCell (p := ⟨w.heap.size, 1, none⟩) (Nat.le_refl _) _).setCell (p := ⟨w.heap.size, 2, none⟩) (Nat.le_refl _) _⟩
    | true =>
      by_cases hk : k' = (L'.length : Int)
      · go_wp2_with fail
        have hcs := HCase.out
        rw [if_pos trivial, if_pos hk] at hcs
        obtain ⟨rfl, rfl, rfl, rfl⟩ : n = n' ∧ d = d' ∧ L = L' ∧ err = 0 := by simpa using hcs
        refine bodyPost_ret (results_row_tmp rfl _ _ w.heap.size _ #[.int .i64 n, .int .i64 d, .slice A L.length cc] (0, 0) _ rfl (blk_put (blk_put (blk_put HG5.out 0 _ rfl) 1 _ rfl) 2 _ rfl) Tryz.underlying30 rfl (by kernel_rfl)) rfl ?_
        have hq : ∀ q, q ∈ 49 :: k49.E → q ≠ 30 := by decide
        refine ⟨.slice A L.length cc, rfl, Kd.R_lower (Kd.R_set (Kd.R_set (Kd.R_set HRR6.out HG5.out hq 0 _) (blk_put HG5.out 0 _ rfl) hq 1 _) (blk_put (blk_put HG5.out 0 _ rfl) 1 _ rfl) hq 2 _) HB1'.out, ((HLow6.out.setCell (p := ⟨w.heap.size, 0, none⟩) (Nat.le_refl _) _).setCell (p := ⟨w.heap.size, 1, none⟩) (Nat.le_refl _) _).setCell (p := ⟨w.heap.size, 2, none⟩) (Nat.le_refl _) _⟩
      · have hkb : (k' != (L'.length : Int)) = true := by simpa using hk
        go_wp2_with fail
        have hcs := HCase.out
        rw [if_pos trivial, if_neg hk] at hcs
        obtain ⟨rfl, rfl, rfl, rfl⟩ : n = 0 ∧ d = 0 ∧ L = [] ∧ err = 362 := by simpa using hcs
        refine bodyPost_ret (results_row_tmp rfl _ _ w.heap.size _ #[.int .i64 0, .int .i64 0, .slice none 0 0] (0, 0) _ rfl (blk_put (blk_put (blk_put HG5.out 0 _ rfl) 1 _ rfl) 2 _ rfl) Tryz.underlying30 rfl (by kernel_rfl)) rfl ?_
        exact ⟨.slice none 0 0, rfl, Kd.R_nil _ _ _ _ _, ((HLow6.out.setCell (p := ⟨w.heap.size, 0, none⟩) (Nat.le_refl _) _).setCell (p := ⟨w.heap.size, 1, none⟩) (Nat.le_refl _) _).setCell (p := ⟨w.heap.size, 2, none⟩) (Nat.le_refl _) _⟩
  · have hcase : (n, d, L, err) = (0, 0, [], c) := by
      rw [← HR.out]
      unfold answerR
      rw [if_neg (by rw [← hc]; exact h0), ← hc]
    obtain ⟨rfl, rfl, rfl, rfl⟩ : n = 0 ∧ d = 0 ∧ L = [] ∧ err = c := by simpa using hcase
    have r0 : w5.cell? ⟨w.heap.size, 0, none⟩ = some (.int .i64 0) := blk_cell hr5 0
    have r1 : w5.cell? ⟨w.heap.size, 1, none⟩ = some (.int .i64 0) := blk_cell hr5 1
    have r2 : w5.cell? ⟨w.heap.size, 2, none⟩ = some (.slice none 0 0) := blk_cell hr5 2
    have f0 : w5.frozen? ⟨w.heap.size, 0, none⟩ = false := blk_frozen hr5 0
    have f1 : w5.frozen? ⟨w.heap.size, 1, none⟩ = false := blk_frozen hr5 1
    have f2 : w5.frozen? ⟨w.heap.size, 2, none⟩ = false := blk_frozen hr5 2
    clear hcase hc hst hlow hr5 hb5
    go_wp2_with fail
    refine bodyPost_ret (results_row_tmp rfl _ _ w.heap.size _ #[.int .i64 0, .int .i64 0, .slice none 0 0] (0, 0) _ rfl (blk_put (blk_put (blk_put HR5.out 0 _ rfl) 1 _ rfl) 2 _ rfl) Tryz.underlying30 rfl (by kernel_rfl)) rfl ?_
    exact ⟨.slice none 0 0, rfl, Kd.R_nil _ _ _ _ _, ((HLow.out.setCell (p := ⟨w.heap.size, 0, none⟩) (Nat.le_refl _) _).setCell (p := ⟨w.heap.size, 1, none⟩) (Nat.le_refl _) _).setCell (p := ⟨w.heap.size, 2, none⟩) (Nat.le_refl _) _⟩
def bank_ReadAnswer.f (k : Nat) (a0 : ByteArray) : Option (Int × Int × (List (S49)) × Int) := if a0.size ≤ 4611686018427387904 then some (answerR a0.data.toList) else none
theorem Bt_of (s : ByteArray) : Bt s.data.toList = s := by
  unfold Bt
  cases s
  simp
theorem bank_ReadAnswer.calls (k : Nat) (a0 : ByteArray) (r1 : Int) (r2 : Int) (r3 : List (S49)) (r4 : Int) (w : World) (hG : GG w) (h : bank_ReadAnswer.f k a0 = some (r1, r2, r3, r4)) :
    Calls Tryz.prog 25 #[.string a0] w fun e w' => ∃ v2_ : Value, e = .returned (.tuple #[.agg #[.int .i64 r1, .int .i64 r2, v2_], .int .i64 r4]) ∧ Kd.R k49 49 w' w.heap.size (fun _ => True) v2_ r3 ∧ Below w.heap.size w w' := by
  unfold bank_ReadAnswer.f at h
  split at h
  · rename_i hs
    have h2 := readAnswer_go a0.data.toList hs r1 r2 r3 r4 (Option.some.inj h) w hG
    rwa [Bt_of] at h2
  · cases h
end Go.Proofs.YtndojpcjhkncgaaGreatDoor.Q
end

section
namespace Go.Proofs.YtndojpcjhkncgaaGreatDoor.Q
open Go Go.RowKit Go.Proofs.YtndojpcjhkncgaaGreatDoorW.PrintWords Go.Proofs.YtndojpcjhkncgaaGreatDoorW.PrintLast Go.Proofs.YtndojpcjhkncgaaGreatDoorW.PrintMore
set_option linter.unusedVariables false
set_option linter.unusedSimpArgs false
def toOrd (r : List Int) : S47 := ⟨r.getD 0 0, r.getD 1 0, r.getD 2 0, r.getD 3 0, r.getD 4 0⟩
def ordCells (o : S47) : List Value := [.int .i64 o.f0, .int .i64 o.f1, .int .i64 o.f2, .int .i64 o.f3, .int .i64 o.f4]
def fileSt : List (List UInt8) → Option (Int × Int × Int × Int × List S47)
  | [] => some (0, 0, 0, 0, [])
  | l :: ls => match scanF l payL 4, scansF orderW 5 ls with | some h, some rs => some (h.getD 0 0, h.getD 1 0, h.getD 2 0, h.getD 3 0, rs.map toOrd) | _, _ => none
abbrev fileOk := lineOk payL 4 orderW 5
def fileR (t : List UInt8) : Int × Int × List S47 × Int :=
  if readC fileOk t = 0 then
    match fileSt (linesOf t) with
    | some (n, d, k, s, L) => if validB n d L = true then (if k = (L.length : Int) then (if s = netSum L then (n, d, L, 0) else (0, 0, [], 362)) else (0, 0, [], 362)) else (0, 0, [], 362)
    | none => (0, 0, [], 0)
  else (0, 0, [], readC fileOk t)
theorem fileSt_some (l : List UInt8) (ls : List (List UInt8)) (n d k s : Int) (L : List S47) (h : fileSt (l :: ls) = some (n, d, k, s, L)) : ∃ a rs, scanF l payL 4 = some a ∧ scansF orderW 5 ls = some rs ∧ n = a.getD 0 0 ∧ d = a.getD 1 0 ∧ k = a.getD 2 0 ∧ s = a.getD 3 0 ∧ L = rs.map toOrd := by
  have h : (match scanF l payL 4, scansF orderW 5 ls with | some h, some rs => some (h.getD 0 0, h.getD 1 0, h.getD 2 0, h.getD 3 0, rs.map toOrd) | _, _ => none) = some (n, d, k, s, L) := h
  cases h1 : scanF l payL 4 with
  | none => rw [h1] at h; cases h
  | some a =>
    cases h2 : scansF orderW 5 ls with
    | none => rw [h1, h2] at h; cases h
    | some rs =>
      rw [h1, h2] at h
      cases h
      exact ⟨a, rs, rfl, rfl, rfl, rfl, rfl, rfl, rfl⟩
theorem fileSt_mk (l : List UInt8) (ls : List (List UInt8)) (a : List Int) (rs : List (List Int)) (h1 : scanF l payL 4 = some a) (h2 : scansF orderW 5 ls = some rs) : fileSt (l :: ls) = some (a.getD 0 0, a.getD 1 0, a.getD 2 0, a.getD 3 0, rs.map toOrd) := by
  show (match scanF l payL 4, scansF orderW 5 ls with | some h, some rs => some (h.getD 0 0, h.getD 1 0, h.getD 2 0, h.getD 3 0, rs.map toOrd) | _, _ => none) = _
  rw [h1, h2]
theorem fileSt_snoc (pre : List (List UInt8)) (hp : pre ≠ []) (x : List UInt8) (n d k s : Int) (L : List S47) (r : List Int) (h : fileSt pre = some (n, d, k, s, L)) (hx : scanF x orderW 5 = some r) : fileSt (pre ++ [x]) = some (n, d, k, s, L ++ [toOrd r]) := by
  cases pre with
  | nil => exact absurd rfl hp
  | cons l ls =>
    obtain ⟨a, rs, h1, h2, rfl, rfl, rfl, rfl, rfl⟩ := fileSt_some l ls n d k s L h
    rw [List.cons_append, fileSt_mk l (ls ++ [x]) a (rs ++ [r]) h1 (by rw [scansF_snoc, h2, hx])]
    simp
theorem fileSt_len (pre : List (List UInt8)) (n d k s : Int) (L : List S47) (h : fileSt pre = some (n, d, k, s, L)) : L.length ≤ pre.length := by
  cases pre with
  | nil => unfold fileSt at h; cases h; exact Nat.le_refl _
  | cons l ls =>
    obtain ⟨a, rs, h1, h2, rfl, rfl, rfl, rfl, rfl⟩ := fileSt_some l ls n d k s L h
    have := scansF_len orderW 5 ls rs h2
    rw [List.length_map, List.length_cons]
    omega
def FI (w0 : World) (ba bc bs B1 : Nat) (pre : List (List UInt8)) (W : World) : Prop :=
  Below w0.heap.size w0 W ∧ ∃ n d k s L v, fileSt pre = some (n, d, k, s, L) ∧ W.heap[ba]? = some (.cells #[.int .i64 n, .int .i64 d, v] 27 (0, 0)) ∧ W.heap[bc]? = some (.cells #[.int .i64 k] 3 (0, 0)) ∧ W.heap[bs]? = some (.cells #[.int .i64 s] 3 (0, 0)) ∧ W.ownsRow B1 47 5 v L.length (L.flatMap ordCells)
theorem FI_out {w0 w : World} {ba bc bs B1 : Nat} {pre : List (List UInt8)} {A B : World} (h0 : w0.heap.size ≤ w.heap.size) (ha : ba < w.heap.size) (hc : bc < w.heap.size) (hs : bs < w.heap.size) (h : FI w0 ba bc bs B1 pre A) (ho : OutN w.heap.size B1 A B) : FI w0 ba bc bs B1 pre B := by
  obtain ⟨h1, n, d, k, s, L, v, h2, h3, h4, h6, h5⟩ := h
  refine ⟨h1.trans ⟨ho.os, ho.tape, ho.output, ho.size, fun k hk => ho.same k (by have := h1.size; omega) (by omega)⟩, n, d, k, s, L, v, h2, (ho.same _ (blk_lt h3) (.inl ha)).trans h3, (ho.same _ (blk_lt h4) (.inl hc)).trans h4, (ho.same _ (blk_lt h6) (.inl hs)).trans h6, owns_keep h5 (fun k hk hl => ho.same k hl (.inr hk))⟩
theorem file_round (w0 w : World) (hG0 : GG w0) (h0 : w0.heap.size ≤ w.heap.size) (ba bc bs : Nat) (hba : w0.heap.size ≤ ba) (hbc : w0.heap.size ≤ bc) (hbs : w0.heap.size ≤ bs) (hba2 : ba < w.heap.size) (hbc2 : bc < w.heap.size) (hbs2 : bs < w.heap.size) (hne : ba ≠ bc) (hne2 : ba ≠ bs) (hne3 : bc ≠ bs) (B1 : Nat) (pre : List (List UInt8)) (x : List UInt8) (W : World)
    (hB : w.heap.size ≤ B1) (hBW : B1 ≤ W.heap.size) (hpl : pre.length ≤ 1048576) (hxl : x.length ≤ 1048576) (h : FI w0 ba bc bs B1 pre W) :
    Calls Tryz.prog (if pre = [] then 48 else 50) (#[.string (Bt x)] ++ (if pre = [] then #[.pointer (some ⟨ba, 0, none⟩), .pointer (some ⟨bc, 0, none⟩), .pointer (some ⟨bs, 0, none⟩)] else #[.pointer (some ⟨ba, 0, none⟩)])) W fun e W' =>
      e = .returned (.bool (fileOk pre x)) ∧ (fileOk pre x = true → FI w0 ba bc bs B1 (pre ++ [x]) W') ∧ (∀ k, w.heap.size ≤ k → k < B1 → W'.heap[k]? = W.heap[k]?) ∧ Below w0.heap.size w0 W' ∧ W.heap.size ≤ W'.heap.size := by
  obtain ⟨h1, n, d, k, s, L, v, h2, h3, h4, h6, h5⟩ := h
  by_cases hp : pre = []
  · subst hp
    rw [if_pos rfl, if_pos rfl]
    refine (read1_go x hxl w0 W hG0 h1 ba bc bs _ _ _ _ _ _ h3 h4 h6 (by show 1 < 3; omega) (by show 0 < 1; omega) (by show 0 < 1; omega) hba hbc hbs).mono ?_
    rintro e W' ⟨ms, rfl, hm1, hm2, hb⟩
    have hok : fileOk [] x = (scanF x payL 4).isSome := by unfold fileOk lineOk; rw [if_pos rfl]
    have hz : ∀ y ∈ [(ba, 0), (ba, 1), (bc, 0), (bs, 0)].zip ms, y.1.1 = ba ∨ y.1.1 = bc ∨ y.1.1 = bs := by
      intro y hy
      have hy := (List.of_mem_zip hy).1
      simp only [List.mem_cons, List.not_mem_nil, or_false] at hy
      rcases hy with e | e | e | e <;> rw [e] <;> simp
    have hs : W.heap.size ≤ W'.heap.size := by have := hb.size; rwa [setAll_size] at this
    refine ⟨by rw [hok], ?_, fun k hk hk2 => (hb.block k (by omega)).trans (setAll_other _ _ _ (fun y hy => by have := hz y hy; omega)), (h1.trans (setAll_below _ _ _ (fun y hy => by have := hz y hy; omega))).trans (hb.mono (by have := h1.size; omega)), hs⟩
    intro hok2
    rw [hok] at hok2
    obtain ⟨ns, hns⟩ := Option.isSome_iff_exists.mp hok2
    have e := hm2 ns hns
    subst e
    obtain ⟨a0, a1, a2, a3, rfl⟩ : ∃ a0 a1 a2 a3, ms = [a0, a1, a2, a3] := by
      match ms, scanF_len _ _ _ _ hns with
      | [a0, a1, a2, a3], _ => exact ⟨a0, a1, a2, a3, rfl⟩
    unfold fileSt at h2
    cases h2
    have hL := blk_lt h3
    have hL2 := blk_lt h4
    have hL3 := blk_lt h6
    refine ⟨(h1.trans (setAll_below _ _ _ (fun y hy => by have := hz y hy; omega))).trans (hb.mono (by have := h1.size; omega)), a0, a1, a2, a3, [], v, ?_, ?_, ?_, ?_, ?_⟩
    · exact fileSt_mk x [] [a0, a1, a2, a3] [] hns rfl
    · refine (hb.block ba hL).trans ?_
      exact (Below.heap_setCell _ _ _ _ hne2).trans ((Below.heap_setCell _ _ _ _ hne).trans (blk_put (blk_put h3 0 (.int .i64 a0) rfl) 1 (.int .i64 a1) rfl))
    · refine (hb.block bc hL2).trans ?_
      exact (Below.heap_setCell _ _ _ _ hne3).trans (blk_put (((Below.heap_setCell _ _ _ _ hne.symm).trans ((Below.heap_setCell _ _ _ _ hne.symm))).trans h4) 0 (.int .i64 a2) rfl)
    · refine (hb.block bs hL3).trans ?_
      exact blk_put (((Below.heap_setCell _ _ _ _ hne3.symm).trans ((Below.heap_setCell _ _ _ _ hne2.symm).trans (Below.heap_setCell _ _ _ _ hne2.symm))).trans h6) 0 (.int .i64 a3) rfl
    · exact owns_keep h5 (fun k hk hl => (hb.block k hl).trans (setAll_other _ _ _ (fun y hy => by have := hz y hy; omega)))
  · rw [if_neg hp, if_neg hp]
    have hll := fileSt_len pre n d k s L h2
    refine (read2_go x hxl w0 W hG0 h1 ba B1 _ _ v L.length (L.flatMap ordCells) h3 hba (by omega) hBW (by omega) h5).mono ?_
    rintro e W' ⟨v', rfl, hv, hf, hk, hl, hs⟩
    have hok : fileOk pre x = (scanF x orderW 5).isSome := by unfold fileOk lineOk; rw [if_neg hp]
    refine ⟨by rw [hok], ?_, fun k hk1 hk2 => hk k hk2 (by omega), hl, hs⟩
    intro hok2
    rw [hok] at hok2
    obtain ⟨ns, hns⟩ := Option.isSome_iff_exists.mp hok2
    have ho := hv ns hns
    obtain ⟨a0, a1, a2, a3, a4, rfl⟩ : ∃ a0 a1 a2 a3 a4, ns = [a0, a1, a2, a3, a4] := by
      match ns, scanF_len _ _ _ _ hns with
      | [a0, a1, a2, a3, a4], _ => exact ⟨a0, a1, a2, a3, a4, rfl⟩
    refine ⟨hl, n, d, k, s, L ++ [toOrd [a0, a1, a2, a3, a4]], v', fileSt_snoc pre hp x n d k s L _ h2 hns, hf, (hk bc (by omega) hne.symm).trans h4, (hk bs (by omega) hne2.symm).trans h6, ?_⟩
    rw [List.length_append, List.flatMap_append]
    exact ho
theorem own_ord {w : World} {base : Nat} {v : Value} : ∀ (L : List S47), w.ownsRow base 47 5 v L.length (L.flatMap ordCells) → Kd.R k47 47 w base (fun _ => True) v L := by
  intro L h
  refine ⟨fun _ _ => trivial, _, h, ?_⟩
  have gen : ∀ (b a : List S47), Reps (k47.M w base (fun k => True ∧ some k ≠ v.ownBlock)) 5 a (a.flatMap ordCells) → Reps (k47.M w base (fun k => True ∧ some k ≠ v.ownBlock)) 5 (a ++ b) ((a ++ b).flatMap ordCells) := by
    intro b
    induction b with
    | nil => intro a h; rw [List.append_nil]; exact h
    | cons x b ih =>
      intro a h
      have h2 := ih (a ++ [x]) (by rw [List.flatMap_append]; exact Reps.snoc h (k47_mkM w base _ x) rfl)
      rwa [List.append_assoc] at h2
  exact gen L [] (Reps.none _ _)
set_option maxHeartbeats 2000000 in
set_option maxRecDepth 100000 in
theorem readFile_go (t : List UInt8) (ht : t.length ≤ 4611686018427387904) (n d : Int) (L : List S47) (err : Int) (hr : fileR t = (n, d, L, err)) (w : World) (hG : GG w) :
    Calls Tryz.prog 24 #[.string (Bt t)] w fun e w' => ∃ v, e = .returned (.tuple #[.agg #[.int .i64 n, .int .i64 d, v], .int .i64 err]) ∧ Kd.R k47 47 w' w.heap.size (fun _ => True) v L ∧ Below w.heap.size w w' := by
  obtain ⟨w1, hw1⟩ : ∃ w1, w1 = w.alloc (.cells #[.int .i64 0, .int .i64 0, .slice none 0 0] 27 (0, 0)) := ⟨_, rfl⟩
  obtain ⟨w2, hw2⟩ : ∃ w2, w2 = (w1.alloc (.cells #[.int .i64 0, .int .i64 0, .slice none 0 0] 27 (0, 0))).alloc (.cells #[.int .i64 0] 3 (0, 0)) := ⟨_, rfl⟩
  obtain ⟨w3, hw3⟩ : ∃ w3, w3 = w2.alloc (.cells #[.int .i64 0] 3 (0, 0)) := ⟨_, rfl⟩
  have hs1 : w1.heap.size = w.heap.size + 1 := by rw [hw1]; simp
  have hs2 : w2.heap.size = w.heap.size + 3 := by rw [hw2]; simp [hs1]
  have hs3 : w3.heap.size = w.heap.size + 4 := by rw [hw3]; simp [hs2]
  have hb1 : Below w.heap.size w w1 := by rw [hw1]; exact (Below.refl _ w).alloc (Nat.le_refl _) _
  have hb3 : Below w1.heap.size w1 w3 := by rw [hw3, hw2]; exact (((Below.refl _ w1).alloc (Nat.le_refl _) _).alloc (by simp) _).alloc (by simp; omega) _
  have hr1 : w1.heap[w.heap.size]? = some (.cells #[.int .i64 0, .int .i64 0, .slice none 0 0] 27 (0, 0)) := by rw [hw1]; exact blk_new w _
  have ha3 : w3.heap[w.heap.size + 1]? = some (.cells #[.int .i64 0, .int .i64 0, .slice none 0 0] 27 (0, 0)) := by
    rw [hw3, hw2, ← hs1]
    exact blk_alloc (blk_alloc (blk_new w1 _) _) _
  have hc3 : w3.heap[w.heap.size + 2]? = some (.cells #[.int .i64 0] 3 (0, 0)) := by
    have h := blk_new (w1.alloc (.cells #[.int .i64 0, .int .i64 0, .slice none 0 0] 27 (0, 0))) (.cells #[.int .i64 0] 3 (0, 0))
    rw [World.size_alloc, hs1, ← hw2] at h
    rw [hw3]
    exact blk_alloc h _
  have hd3 : w3.heap[w.heap.size + 3]? = some (.cells #[.int .i64 0] 3 (0, 0)) := by
    have h := blk_new w2 (.cells #[.int .i64 0] 3 (0, 0))
    rw [hs2, ← hw3] at h
    exact h
  have hG1 : GG w1 := hG.below hb1
  have hRead : Calls Tryz.prog 47 #[.string (Bt t), .func (.func 48) #[] #[.pointer (some ⟨w.heap.size + 1, 0, none⟩), .pointer (some ⟨w.heap.size + 2, 0, none⟩), .pointer (some ⟨w.heap.size + 3, 0, none⟩)], .func (.func 50) #[] #[.pointer (some ⟨w.heap.size + 1, 0, none⟩)]] w3 fun e w' =>
      e = .returned (.int .i64 (readC fileOk t)) ∧ Below w1.heap.size w1 w' ∧ (readC fileOk t = 0 → ∃ B1, w3.heap.size ≤ B1 ∧ FI w1 (w.heap.size + 1) (w.heap.size + 2) (w.heap.size + 3) B1 (linesOf t) w') :=
    read_go 10 t ht w1 w3 hG1 hb3 _ _ _ _ (enters_of Tryz.func48 (by kernel_rfl) rfl) (enters_of Tryz.func50 (by kernel_rfl) rfl) fileOk (FI w1 (w.heap.size + 1) (w.heap.size + 2) (w.heap.size + 3))
      (fun B1 W hB hb => ⟨hb3.trans (hb.mono (by omega)), 0, 0, 0, 0, [], .slice none 0 0, rfl, (hb.block _ (by omega)).trans ha3, (hb.block _ (by omega)).trans hc3, (hb.block _ (by omega)).trans hd3, ⟨rfl, .inl ⟨rfl, rfl⟩⟩⟩)
      (fun B1 pre A B h ho => FI_out (by omega) (by omega) (by omega) (by omega) h ho) (fun B1 pre W h => h.1)
      (fun B1 pre x W h1 h2 h3 h4 h5 => file_round w1 w3 hG1 (by omega) _ _ _ (by omega) (by omega) (by omega) (by omega) (by omega) (by omega) (by omega) (by omega) (by omega) B1 pre x W h1 h2 h3 h4 h5)
  have HRead := Lib.hid hRead
  have HR := Lib.hid hr
  have HB1 := Lib.hid hb1
  have HR1 := Lib.hid hr1
  have HS1 := Lib.hid hs1
  have HG := Lib.hid hG
  have e3 : (((w.alloc (.cells #[.int .i64 0, .int .i64 0, .slice none 0 0] 27 (0, 0))).alloc (.cells #[.int .i64 0, .int .i64 0, .slice none 0 0] 27 (0, 0))).alloc (.cells #[.int .i64 0] 3 (0, 0))).alloc (.cells #[.int .i64 0] 3 (0, 0)) = w3 := by rw [hw3, hw2, hw1]
  have HE3 := Lib.hid e3
  have HS3 := Lib.hid hs3
  clear hRead hr hb1 hr1 hs1 hs2 hs3 hb3 ha3 hc3 hd3 hG hG1 hw3 e3 hw2 hw1
  go_enter Tryz.func24, Tryz.ntmps24
  go_wp2_with fail
  rw [HE3.out]
  refine HRead.out.mono ?_
  rintro e w5 ⟨rfl, hb5, hst⟩
  have hl1 := HS1.out
  have hr5 : w5.heap[w.heap.size]? = some (.cells #[.int .i64 0, .int .i64 0, .slice none 0 0] 27 (0, 0)) := (hb5.block _ (by omega)).trans HR1.out
  have hlow := below_then HB1.out HB1.out.size hb5
  have HLow := Lib.hid hlow
  have HST := Lib.hid hst
  have HR5 := Lib.hid hr5
  obtain ⟨c, hc⟩ : ∃ c, c = readC fileOk t := ⟨_, rfl⟩
  rw [← hc]
  by_cases h0 : c = 0
  · subst h0
    obtain ⟨B1, hB1, _, n', d', k', s', L', v', g2, g3, g4, g6, g5⟩ := hst hc.symm
    have hR := own_ord L' g5
    obtain ⟨A, cc, rfl, hle, hC⟩ := Kd.R_reads hR
    have hLl := Nat.le_trans (fileSt_len _ _ _ _ _ _ g2) (lines_len t ht)
    obtain ⟨kk, hkk⟩ := Valid_ev n' d' L' (by omega)
    have hVal : ∀ W', Below w5.heap.size w5 W' → Calls Tryz.prog 22 #[.agg #[.int .i64 n', .int .i64 d', .slice A L'.length cc]] W' fun e w' => e = .returned (.bool (validB n' d' L')) ∧ Below w5.heap.size w5 w' := fun W' hb => by
      refine (bank_Valid.calls kk n' d' A cc L' _ W' (Kd.C_below hC hb) hle (hkk kk (Nat.le_refl _))).mono ?_
      rintro e w' ⟨rfl, hb2⟩
      exact ⟨rfl, below_then hb hb.size hb2⟩
    have hTot : validB n' d' L' = true → ∀ W', Below w5.heap.size w5 W' → Calls Tryz.prog 46 #[.agg #[.int .i64 n', .int .i64 d', .slice A L'.length cc]] W' fun e w' => e = .returned (.int .i64 (netSum L')) ∧ Below w5.heap.size w5 w' := fun hv W' hb => by
      obtain ⟨k2, hk2⟩ := (total_ev n' d' L' hv).1
      refine (bank_total.calls k2 n' d' A cc L' _ W' (Kd.C_below hC hb) hle (hk2 k2 (Nat.le_refl _))).mono ?_
      rintro e w' ⟨rfl, hb2⟩
      exact ⟨rfl, below_then hb hb.size hb2⟩
    have hcase : (n, d, L, err) = if validB n' d' L' = true then (if k' = (L'.length : Int) then (if s' = netSum L' then (n', d', L', 0) else (0, 0, [], 362)) else (0, 0, [], 362)) else (0, 0, [], 362) := by
      rw [← HR.out]
      unfold fileR
      rw [if_pos hc.symm, g2]
    have hSS : ∀ W', Below w5.heap.size w5 W' → (W'.cell? ⟨w.heap.size + 1, 0, none⟩ = some (.int .i64 n') ∧ W'.cell? ⟨w.heap.size + 1, 1, none⟩ = some (.int .i64 d') ∧ W'.cell? ⟨w.heap.size + 1, 2, none⟩ = some (.slice A L'.length cc) ∧ W'.cell? ⟨w.heap.size + 1 + 1, 0, none⟩ = some (.int .i64 k') ∧ W'.cell? ⟨w.heap.size + 1 + 1 + 1, 0, none⟩ = some (.int .i64 s')) := fun W' hb => by
      have q3 := (hb.block _ (blk_lt g3)).trans g3
      have q4 := (hb.block _ (blk_lt g4)).trans g4
      have q6 := (hb.block _ (blk_lt g6)).trans g6
      exact ⟨blk_cell q3 0, blk_cell q3 1, blk_cell q3 2, blk_cell q4 0, blk_cell q6 0⟩
    have HSS := Lib.hid hSS
    have HCase := Lib.hid hcase
    have HVal := Lib.hid hVal
    have HTot := Lib.hid hTot
    have HRR := Lib.hid hR
    have HB1' := Lib.hid (show w.heap.size ≤ B1 by have := HS3.out; omega)
    have HCc := Lib.hid hc
    have HK1 := Lib.hid (below_drew (Below.refl w5.heap.size w5))
    obtain ⟨rb, hrb⟩ : ∃ rb, rb = validB n' d' L' := ⟨_, rfl⟩
    rw [← hrb] at HVal HTot HCase
    clear hc hB1 hVal hTot hcase hSS g2 g3 g4 g5 g6 hR hle hC hkk hLl hrb hr5 hlow hst hb5
    cases rb with
    | false =>
      go_wp2_with fail
      refine start_ (n := 17) (S := fun w' => w'.cell? ⟨w.heap.size + 1, 0, none⟩ = some (.int .i64 n') ∧ w'.cell? ⟨w.heap.size + 1, 1, none⟩ = some (.int .i64 d') ∧ w'.cell? ⟨w.heap.size + 1, 2, none⟩ = some (.slice A L'.length cc) ∧ w'.cell? ⟨w.heap.size + 1 + 1, 0, none⟩ = some (.int .i64 k') ∧ w'.cell? ⟨w.heap.size + 1 + 1 + 1, 0, none⟩ = some (.int .i64 s')) (ds := []) #[false, false, false, false, false, false, false, false, false, false, false, false, false, false, false, false, false] (by kernel_rfl) rfl rfl (HSS.out _ HK1.out) (fun hHeld => ?_)
      refine take_ (i := 0) (N := some 18) (v := ?_) (a' := ?_) #[true, false, false, false, false, false, false, false, false, false, false, false, false, false, false, false, false] rfl rfl (by kernel_rfl) (fun _ _ _ h => h) (Or.inl ⟨by rfl, ?_⟩) hHeld ?_ ?_
      rotate_left
      ·
       rintro w' ⟨s0, s1, s2, s3, s4⟩
       go_simp
       with_reducible rfl
      rotate_left
      ·
       simp only [Act.put, List.setIfInBounds_toArray, List.set_cons_zero, List.set_cons_succ]
       rfl
      refine one_ (i := 1) (N := some 19) #[true, true, false, false, false, false, false, false, false, false, false, false, false, false, false, false, false] rfl rfl (by kernel_rfl) (by decide) (fun K hK => ?_)
      refine goes_ Tryz.func22 (by kernel_rfl) rfl #[.agg #[.int .i64 n', .int .i64 d', .slice A L'.length cc]] (by rfl) rfl rfl (by (try simp only [List.map_toArray, List.map_cons, List.map_nil]); first | done | rfl) ?_
      refine (HVal.out _ HK1.out).mono ?_
      rintro e w2 ⟨rfl, hb⟩
      refine ⟨_, rfl, ?_⟩
      have HK2 := Lib.hid hb
      clear hb
      refine hK.out _ _ (HSS.out _ HK2.out) (fun hHeld => ?_)
      clear hK K
      refine norm_ (a' := ?_) ?_ ?_
      rotate_left
      ·
       show Act.put _ (some 19) _ = _
       simp only [Act.put, List.setIfInBounds_toArray, List.set_cons_zero, List.set_cons_succ]
       rfl
      refine pure_ (i := 2) (N := some 20) (v := ?_) (a' := ?_) #[true, true, true, false, false, false, false, false, false, false, false, false, false, false, false, false, false] rfl rfl (by kernel_rfl) (fun _ _ _ h => h) (Or.inl ⟨by rfl, ?_⟩) ?_ ?_
      rotate_left
      ·
       intro w'
       go_simp
       with_reducible rfl
      rotate_left
      ·
       simp only [Act.put, List.setIfInBounds_toArray, List.set_cons_zero, List.set_cons_succ]
       rfl
      refine pure_ (i := 3) (N := some 21) (v := ?_) (a' := ?_) #[true, true, true, true, false, false, false, false, false, false, false, false, false, false, false, false, false] rfl rfl (by kernel_rfl) (fun _ _ _ h => h) (Or.inl ⟨by rfl, ?_⟩) ?_ ?_
      rotate_left
      ·
       intro w'
       go_simp
       with_reducible rfl
      rotate_left
      ·
       simp only [Act.put, List.setIfInBounds_toArray, List.set_cons_zero, List.set_cons_succ]
       rfl
      refine pure_ (i := 4) (N := some 22) (v := undef) (a' := ?_) #[true, true, true, true, true, false, false, false, false, false, false, false, false, false, false, false, false] rfl rfl (by kernel_rfl) (fun _ _ _ h => h) (Or.inr ⟨by rfl, rfl⟩) ?_ ?_
      rotate_left
      ·
       simp only [Act.put, List.setIfInBounds_toArray, List.set_cons_zero, List.set_cons_succ]
       rfl
      refine pure_ (i := 5) (N := some 23) (v := undef) (a' := ?_) #[true, true, true, true, true, true, false, false, false, false, false, false, false, false, false, false, false] rfl rfl (by kernel_rfl) (fun _ _ _ h => h) (Or.inr ⟨by rfl, rfl⟩) ?_ ?_
      rotate_left
      ·
       simp only [Act.put, List.setIfInBounds_toArray, List.set_cons_zero, List.set_cons_succ]
       rfl
      refine pure_ (i := 6) (N := some 24) (v := undef) (a' := ?_) #[true, true, true, true, true, true, true, false, false, false, false, false, false, false, false, false, false] rfl rfl (by kernel_rfl) (fun _ _ _ h => h) (Or.inr ⟨by rfl, rfl⟩) ?_ ?_
      rotate_left
      ·
       simp only [Act.put, List.setIfInBounds_toArray, List.set_cons_zero, List.set_cons_succ]
       rfl
      refine pure_ (i := 7) (N := some 25) (v := undef) (a' := ?_) #[true, true, true, true, true, true, true, true, false, false, false, false, false, false, false, false, false] rfl rfl (by kernel_rfl) (fun _ _ _ h => h) (Or.inr ⟨by rfl, rfl⟩) ?_ ?_
      rotate_left
      ·
       simp only [Act.put, List.setIfInBounds_toArray, List.set_cons_zero, List.set_cons_succ]
       rfl
      refine pure_ (i := 8) (N := some 26) (v := undef) (a' := ?_) #[true, true, true, true, true, true, true, true, true, false, false, false, false, false, false, false, false] rfl rfl (by kernel_rfl) (fun _ _ _ h => h) (Or.inr ⟨by rfl, rfl⟩) ?_ ?_
      rotate_left
      ·
       simp only [Act.put, List.setIfInBounds_toArray, List.set_cons_zero, List.set_cons_succ]
       rfl
      refine pure_ (i := 9) (N := some 27) (v := ?_) (a' := ?_) #[true, true, true, true, true, true, true, true, true, true, false, false, false, false, false, false, false] rfl rfl (by kernel_rfl) (fun _ _ _ h => h) (Or.inl ⟨by rfl, ?_⟩) ?_ ?_
      rotate_left
      ·
       intro w'
       go_simp
       with_reducible rfl
      rotate_left
      ·
       simp only [Act.put, List.setIfInBounds_toArray, List.set_cons_zero, List.set_cons_succ]
       rfl
      refine pure_ (i := 10) (N := some 28) (v := ?_) (a' := ?_) #[true, true, true, true, true, true, true, true, true, true, true, false, false, false, false, false, false] rfl rfl (by kernel_rfl) (fun _ _ _ h => h) (Or.inl ⟨by rfl, ?_⟩) ?_ ?_
      rotate_left
      ·
       intro w'
       go_simp
       with_reducible rfl
      rotate_left
      ·
       simp only [Act.put, List.setIfInBounds_toArray, List.set_cons_zero, List.set_cons_succ]
       rfl
      refine pure_ (i := 11) (N := some 29) (v := undef) (a' := ?_) #[true, true, true, true, true, true, true, true, true, true, true, true, false, false, false, false, false] rfl rfl (by kernel_rfl) (fun _ _ _ h => h) (Or.inr ⟨by rfl, rfl⟩) ?_ ?_
      rotate_left
      ·
       simp only [Act.put, List.setIfInBounds_toArray, List.set_cons_zero, List.set_cons_succ]
       rfl
      refine pure_ (i := 12) (N := some 30) (v := undef) (a' := ?_) #[true, true, true, true, true, true, true, true, true, true, true, true, true, false, false, false, false] rfl rfl (by kernel_rfl) (fun _ _ _ h => h) (Or.inr ⟨by rfl, rfl⟩) ?_ ?_
      rotate_left
      ·
       simp only [Act.put, List.setIfInBounds_toArray, List.set_cons_zero, List.set_cons_succ]
       rfl
      refine pure_ (i := 13) (N := some 31) (v := undef) (a' := ?_) #[true, true, true, true, true, true, true, true, true, true, true, true, true, true, false, false, false] rfl rfl (by kernel_rfl) (fun _ _ _ h => h) (Or.inr ⟨by rfl, rfl⟩) ?_ ?_
      rotate_left
      ·
       simp only [Act.put, List.setIfInBounds_toArray, List.set_cons_zero, List.set_cons_succ]
       rfl
      refine pure_ (i := 14) (N := some 32) (v := undef) (a' := ?_) #[true, true, true, true, true, true, true, true, true, true, true, true, true, true, true, false, false] rfl rfl (by kernel_rfl) (fun _ _ _ h => h) (Or.inr ⟨by rfl, rfl⟩) ?_ ?_
      rotate_left
      ·
       simp only [Act.put, List.setIfInBounds_toArray, List.set_cons_zero, List.set_cons_succ]
       rfl
      refine pure_ (i := 15) (N := some 33) (v := ?_) (a' := ?_) #[true, true, true, true, true, true, true, true, true, true, true, true, true, true, true, true, false] rfl rfl (by kernel_rfl) (fun _ _ _ h => h) (Or.inl ⟨by rfl, ?_⟩) ?_ ?_
      rotate_left
      ·
       intro w'
       go_simp
       with_reducible rfl
      rotate_left
      ·
       simp only [Act.put, List.setIfInBounds_toArray, List.set_cons_zero, List.set_cons_succ]
       rfl
      refine pure_ (i := 16) (N := some 17) (v := ?_) (a' := ?_) #[true, true, true, true, true, true, true, true, true, true, true, true, true, true, true, true, true] rfl rfl (by kernel_rfl) (fun _ _ _ h => h) (Or.inl ⟨by rfl, ?_⟩) ?_ ?_
      rotate_left
      ·
       intro w'
       go_simp
       with_reducible rfl
      rotate_left
      ·
       simp only [Act.put, List.setIfInBounds_toArray, List.set_cons_zero, List.set_cons_succ]
       rfl
      refine done_ (by kernel_rfl) ?_
      have g5 := (HK2.out.block _ (blk_lt HR5.out)).trans HR5.out
      have r0 : w2.cell? ⟨w.heap.size, 0, none⟩ = some (.int .i64 0) := blk_cell g5 0
      have r1 : w2.cell? ⟨w.heap.size, 1, none⟩ = some (.int .i64 0) := blk_cell g5 1
      have r2 : w2.cell? ⟨w.heap.size, 2, none⟩ = some (.slice none 0 0) := blk_cell g5 2
      have f0 : w2.frozen? ⟨w.heap.size, 0, none⟩ = false := blk_frozen g5 0
      have f1 : w2.frozen? ⟨w.heap.size, 1, none⟩ = false := blk_frozen g5 1
      have f2 : w2.frozen? ⟨w.heap.size, 2, none⟩ = false := blk_frozen g5 2
      obtain ⟨a0, a1, a2, a3, a4⟩ := HSS.out _ HK2.out
      have HLow6 := Lib.hid (below_then HLow.out HLow.out.size HK2.out)
      have HRR6 := Lib.hid (Kd.R_below HRR.out HK2.out)
      have HG5 := Lib.hid g5
      clear g5 hHeld
      go_wp2_with fail
      have hcs := HCase.out
      obtain ⟨rfl, rfl, rfl, rfl⟩ : n = 0 ∧ d = 0 ∧ L = [] ∧ err = 362 := by simpa using hcs
      refine bodyPost_ret (results_row_tmp rfl _ _ w.heap.size _ #[.int .i64 0, .int .i64 0, .slice none 0 0] (0, 0) _ rfl (blk_put (blk_put (blk_put HG5.out 0 _ rfl) 1 _ rfl) 2 _ rfl) Tryz.underlying27 rfl (by kernel_rfl)) rfl ?_
      exact ⟨.slice none 0 0, rfl, Kd.R_nil _ _ _ _ _, ((HLow6.out.setCell (p := ⟨w.heap.size, 0, none⟩) (Nat.le_refl _) _).setCell (p := ⟨w.heap.size, 1, none⟩) (Nat.le_refl _) _).setCell (p := ⟨w.heap.size, 2, none⟩) (Nat.le_refl _) _⟩
    | true =>
      by_cases hk : k' = (L'.length : Int)
      · subst hk
        by_cases hs : s' = netSum L'
        · subst hs
          go_wp2_with fail
          refine start_ (n := 17) (S := fun w' => w'.cell? ⟨w.heap.size + 1, 0, none⟩ = some (.int .i64 n') ∧ w'.cell? ⟨w.heap.size + 1, 1, none⟩ = some (.int .i64 d') ∧ w'.cell? ⟨w.heap.size + 1, 2, none⟩ = some (.slice A L'.length cc) ∧ w'.cell? ⟨w.heap.size + 1 + 1, 0, none⟩ = some (.int .i64 L'.length) ∧ w'.cell? ⟨w.heap.size + 1 + 1 + 1, 0, none⟩ = some (.int .i64 (netSum L'))) (ds := []) #[false, false, false, false, false, false, false, false, false, false, false, false, false, false, false, false, false] (by kernel_rfl) rfl rfl (HSS.out _ HK1.out) (fun hHeld => ?_)
          refine take_ (i := 0) (N := some 18) (v := ?_) (a' := ?_) #[true, false, false, false, false, false, false, false, false, false, false, false, false, false, false, false, false] rfl rfl (by kernel_rfl) (fun _ _ _ h => h) (Or.inl ⟨by rfl, ?_⟩) hHeld ?_ ?_
          rotate_left
          ·
           rintro w' ⟨s0, s1, s2, s3, s4⟩
           go_simp
           with_reducible rfl
          rotate_left
          ·
           simp only [Act.put, List.setIfInBounds_toArray, List.set_cons_zero, List.set_cons_succ]
           rfl
          refine one_ (i := 1) (N := some 19) #[true, true, false, false, false, false, false, false, false, false, false, false, false, false, false, false, false] rfl rfl (by kernel_rfl) (by decide) (fun K hK => ?_)
          refine goes_ Tryz.func22 (by kernel_rfl) rfl #[.agg #[.int .i64 n', .int .i64 d', .slice A L'.length cc]] (by rfl) rfl rfl (by (try simp only [List.map_toArray, List.map_cons, List.map_nil]); first | done | rfl) ?_
          refine (HVal.out _ HK1.out).mono ?_
          rintro e w2 ⟨rfl, hb⟩
          refine ⟨_, rfl, ?_⟩
          have HK2 := Lib.hid hb
          clear hb
          refine hK.out _ _ (HSS.out _ HK2.out) (fun hHeld => ?_)
          clear hK K
          refine norm_ (a' := ?_) ?_ ?_
          rotate_left
          ·
           show Act.put _ (some 19) _ = _
           simp only [Act.put, List.setIfInBounds_toArray, List.set_cons_zero, List.set_cons_succ]
           rfl
          refine pure_ (i := 2) (N := some 20) (v := ?_) (a' := ?_) #[true, true, true, false, false, false, false, false, false, false, false, false, false, false, false, false, false] rfl rfl (by kernel_rfl) (fun _ _ _ h => h) (Or.inl ⟨by rfl, ?_⟩) ?_ ?_
          rotate_left
          ·
           intro w'
           go_simp
           with_reducible rfl
          rotate_left
          ·
           simp only [Act.put, List.setIfInBounds_toArray, List.set_cons_zero, List.set_cons_succ]
           rfl
          refine pure_ (i := 3) (N := some 21) (v := ?_) (a' := ?_) #[true, true, true, true, false, false, false, false, false, false, false, false, false, false, false, false, false] rfl rfl (by kernel_rfl) (fun _ _ _ h => h) (Or.inl ⟨by rfl, ?_⟩) ?_ ?_
          rotate_left
          ·
           intro w'
           go_simp
           with_reducible rfl
          rotate_left
          ·
           simp only [Act.put, List.setIfInBounds_toArray, List.set_cons_zero, List.set_cons_succ]
           rfl
          refine take_ (i := 4) (N := some 22) (v := ?_) (a' := ?_) #[true, true, true, true, true, false, false, false, false, false, false, false, false, false, false, false, false] rfl rfl (by kernel_rfl) (fun _ _ _ h => h) (Or.inl ⟨by rfl, ?_⟩) hHeld ?_ ?_
          rotate_left
          ·
           rintro w' ⟨s0, s1, s2, s3, s4⟩
           go_simp
           with_reducible rfl
          rotate_left
          ·
           simp only [Act.put, List.setIfInBounds_toArray, List.set_cons_zero, List.set_cons_succ]
           rfl
          refine pure_ (i := 5) (N := some 23) (v := ?_) (a' := ?_) #[true, true, true, true, true, true, false, false, false, false, false, false, false, false, false, false, false] rfl rfl (by kernel_rfl) (fun _ _ _ h => h) (Or.inl ⟨by rfl, ?_⟩) ?_ ?_
          rotate_left
          ·
           intro w'
           go_simp
           with_reducible rfl
          rotate_left
          ·
           simp only [Act.put, List.setIfInBounds_toArray, List.set_cons_zero, List.set_cons_succ]
           rfl
          refine take_ (i := 6) (N := some 24) (v := ?_) (a' := ?_) #[true, true, true, true, true, true, true, false, false, false, false, false, false, false, false, false, false] rfl rfl (by kernel_rfl) (fun _ _ _ h => h) (Or.inl ⟨by rfl, ?_⟩) hHeld ?_ ?_
          rotate_left
          ·
           rintro w' ⟨s0, s1, s2, s3, s4⟩
           go_simp
           with_reducible rfl
          rotate_left
          ·
           simp only [Act.put, List.setIfInBounds_toArray, List.set_cons_zero, List.set_cons_succ]
           rfl
          refine pure_ (i := 7) (N := some 25) (v := ?_) (a' := ?_) #[true, true, true, true, true, true, true, true, false, false, false, false, false, false, false, false, false] rfl rfl (by kernel_rfl) (fun _ _ _ h => h) (Or.inl ⟨by rfl, ?_⟩) ?_ ?_
          rotate_left
          ·
           intro w'
           go_simp
           with_reducible rfl
          rotate_left
          ·
           simp only [Act.put, List.setIfInBounds_toArray, List.set_cons_zero, List.set_cons_succ]
           rfl
          refine pure_ (i := 8) (N := some 26) (v := ?_) (a' := ?_) #[true, true, true, true, true, true, true, true, true, false, false, false, false, false, false, false, false] rfl rfl (by kernel_rfl) (fun _ _ _ h => h) (Or.inl ⟨by rfl, ?_⟩) ?_ ?_
          rotate_left
          ·
           intro w'
           go_simp
           with_reducible rfl
          rotate_left
          ·
           simp only [Act.put, List.setIfInBounds_toArray, List.set_cons_zero, List.set_cons_succ]
           rfl
          refine pure_ (i := 9) (N := some 27) (v := ?_) (a' := ?_) #[true, true, true, true, true, true, true, true, true, true, false, false, false, false, false, false, false] rfl rfl (by kernel_rfl) (fun _ _ _ h => h) (Or.inl ⟨by rfl, ?_⟩) ?_ ?_
          rotate_left
          ·
           intro w'
           go_simp
           with_reducible rfl
          rotate_left
          ·
           simp only [Act.put, List.setIfInBounds_toArray, List.set_cons_zero, List.set_cons_succ]
           rfl
          refine pure_ (i := 10) (N := some 28) (v := ?_) (a' := ?_) #[true, true, true, true, true, true, true, true, true, true, true, false, false, false, false, false, false] rfl rfl (by kernel_rfl) (fun _ _ _ h => h) (Or.inl ⟨by rfl, ?_⟩) ?_ ?_
          rotate_left
          ·
           intro w'
           go_simp
           with_reducible rfl
          rotate_left
          ·
           simp only [Act.put, List.setIfInBounds_toArray, List.set_cons_zero, List.set_cons_succ]
           rfl
          refine take_ (i := 11) (N := some 29) (v := ?_) (a' := ?_) #[true, true, true, true, true, true, true, true, true, true, true, true, false, false, false, false, false] rfl rfl (by kernel_rfl) (fun _ _ _ h => h) (Or.inl ⟨by rfl, ?_⟩) hHeld ?_ ?_
          rotate_left
          ·
           rintro w' ⟨s0, s1, s2, s3, s4⟩
           go_simp
           with_reducible rfl
          rotate_left
          ·
           simp only [Act.put, List.setIfInBounds_toArray, List.set_cons_zero, List.set_cons_succ]
           rfl
          refine take_ (i := 12) (N := some 30) (v := ?_) (a' := ?_) #[true, true, true, true, true, true, true, true, true, true, true, true, true, false, false, false, false] rfl rfl (by kernel_rfl) (fun _ _ _ h => h) (Or.inl ⟨by rfl, ?_⟩) hHeld ?_ ?_
          rotate_left
          ·
           rintro w' ⟨s0, s1, s2, s3, s4⟩
           go_simp
           with_reducible rfl
          rotate_left
          ·
           simp only [Act.put, List.setIfInBounds_toArray, List.set_cons_zero, List.set_cons_succ]
           rfl
          refine one_ (i := 13) (N := some 31) #[true, true, true, true, true, true, true, true, true, true, true, true, true, true, false, false, false] rfl rfl (by kernel_rfl) (by decide) (fun K hK => ?_)
          refine goes_ Tryz.func46 (by kernel_rfl) rfl #[.agg #[.int .i64 n', .int .i64 d', .slice A L'.length cc]] (by rfl) rfl rfl (by (try simp only [List.map_toArray, List.map_cons, List.map_nil]); first | done | rfl) ?_
          refine (HTot.out trivial _ HK2.out).mono ?_
          rintro e w3 ⟨rfl, hb⟩
          refine ⟨_, rfl, ?_⟩
          have HK3 := Lib.hid hb
          clear hb
          refine hK.out _ _ (HSS.out _ HK3.out) (fun hHeld => ?_)
          clear hK K
          refine norm_ (a' := ?_) ?_ ?_
          rotate_left
          ·
           show Act.put _ (some 31) _ = _
           simp only [Act.put, List.setIfInBounds_toArray, List.set_cons_zero, List.set_cons_succ]
           rfl
          refine pure_ (i := 14) (N := some 32) (v := ?_) (a' := ?_) #[true, true, true, true, true, true, true, true, true, true, true, true, true, true, true, false, false] rfl rfl (by kernel_rfl) (fun _ _ _ h => h) (Or.inl ⟨by rfl, ?_⟩) ?_ ?_
          rotate_left
          ·
           intro w'
           go_simp
           with_reducible rfl
          rotate_left
          ·
           simp only [Act.put, List.setIfInBounds_toArray, List.set_cons_zero, List.set_cons_succ]
           rfl
          refine pure_ (i := 15) (N := some 33) (v := ?_) (a' := ?_) #[true, true, true, true, true, true, true, true, true, true, true, true, true, true, true, true, false] rfl rfl (by kernel_rfl) (fun _ _ _ h => h) (Or.inl ⟨by rfl, ?_⟩) ?_ ?_
          rotate_left
          ·
           intro w'
           go_simp
           with_reducible rfl
          rotate_left
          ·
           simp only [Act.put, List.setIfInBounds_toArray, List.set_cons_zero, List.set_cons_succ]
           rfl
          refine pure_ (i := 16) (N := some 17) (v := ?_) (a' := ?_) #[true, true, true, true, true, true, true, true, true, true, true, true, true, true, true, true, true] rfl rfl (by kernel_rfl) (fun _ _ _ h => h) (Or.inl ⟨by rfl, ?_⟩) ?_ ?_
          rotate_left
          ·
           intro w'
           go_simp
           with_reducible rfl
          rotate_left
          ·
           simp only [Act.put, List.setIfInBounds_toArray, List.set_cons_zero, List.set_cons_succ]
           rfl
          refine done_ (by kernel_rfl) ?_
          have g5 := (HK3.out.block _ (blk_lt HR5.out)).trans HR5.out
          have r0 : w3.cell? ⟨w.heap.size, 0, none⟩ = some (.int .i64 0) := blk_cell g5 0
          have r1 : w3.cell? ⟨w.heap.size, 1, none⟩ = some (.int .i64 0) := blk_cell g5 1
          have r2 : w3.cell? ⟨w.heap.size, 2, none⟩ = some (.slice none 0 0) := blk_cell g5 2
          have f0 : w3.frozen? ⟨w.heap.size, 0, none⟩ = false := blk_frozen g5 0
          have f1 : w3.frozen? ⟨w.heap.size, 1, none⟩ = false := blk_frozen g5 1
          have f2 : w3.frozen? ⟨w.heap.size, 2, none⟩ = false := blk_frozen g5 2
          obtain ⟨a0, a1, a2, a3, a4⟩ := HSS.out _ HK3.out
          have HLow6 := Lib.hid (below_then HLow.out HLow.out.size HK3.out)
          have HRR6 := Lib.hid (Kd.R_below HRR.out HK3.out)
          have HG5 := Lib.hid g5
          clear g5 hHeld
          go_wp2_with fail
          have hcs := HCase.out
          simp only [if_true] at hcs
          obtain ⟨rfl, rfl, rfl, rfl⟩ : n = n' ∧ d = d' ∧ L = L' ∧ err = 0 := by simpa using hcs
          refine bodyPost_ret (results_row_tmp rfl _ _ w.heap.size _ #[.int .i64 n, .int .i64 d, .slice A L.length cc] (0, 0) _ rfl (blk_put (blk_put (blk_put HG5.out 0 _ rfl) 1 _ rfl) 2 _ rfl) Tryz.underlying27 rfl (by kernel_rfl)) rfl ?_
          have hq : ∀ q, q ∈ 47 :: k47.E → q ≠ 27 := by decide
          refine ⟨.slice A L.length cc, rfl, Kd.R_lower (Kd.R_set (Kd.R_set (Kd.R_set HRR6.out HG5.out hq 0 _) (blk_put HG5.out 0 _ rfl) hq 1 _) (blk_put (blk_put HG5.out 0 _ rfl) 1 _ rfl) hq 2 _) HB1'.out, ((HLow6.out.setCell (p := ⟨w.heap.size, 0, none⟩) (Nat.le_refl _) _).setCell (p := ⟨w.heap.size, 1, none⟩) (Nat.le_refl _) _).setCell (p := ⟨w.heap.size, 2, none⟩) (Nat.le_refl _) _⟩
        · have hsb : (s' != netSum L') = true := by simpa using hs
          go_wp2_with fail
          refine start_ (n := 17) (S := fun w' => w'.cell? ⟨w.heap.size + 1, 0, none⟩ = some (.int .i64 n') ∧ w'.cell? ⟨w.heap.size + 1, 1, none⟩ = some (.int .i64 d') ∧ w'.cell? ⟨w.heap.size + 1, 2, none⟩ = some (.slice A L'.length cc) ∧ w'.cell? ⟨w.heap.size + 1 + 1, 0, none⟩ = some (.int .i64 L'.length) ∧ w'.cell? ⟨w.heap.size + 1 + 1 + 1, 0, none⟩ = some (.int .i64 s')) (ds := []) #[false, false, false, false, false, false, false, false, false, false, false, false, false, false, false, false, false] (by kernel_rfl) rfl rfl (HSS.out _ HK1.out) (fun hHeld => ?_)
          refine take_ (i := 0) (N := some 18) (v := ?_) (a' := ?_) #[true, false, false, false, false, false, false, false, false, false, false, false, false, false, false, false, false] rfl rfl (by kernel_rfl) (fun _ _ _ h => h) (Or.inl ⟨by rfl, ?_⟩) hHeld ?_ ?_
          rotate_left
          ·
           rintro w' ⟨s0, s1, s2, s3, s4⟩
           go_simp
           with_reducible rfl
          rotate_left
          ·
           simp only [Act.put, List.setIfInBounds_toArray, List.set_cons_zero, List.set_cons_succ]
           rfl
          refine one_ (i := 1) (N := some 19) #[true, true, false, false, false, false, false, false, false, false, false, false, false, false, false, false, false] rfl rfl (by kernel_rfl) (by decide) (fun K hK => ?_)
          refine goes_ Tryz.func22 (by kernel_rfl) rfl #[.agg #[.int .i64 n', .int .i64 d', .slice A L'.length cc]] (by rfl) rfl rfl (by (try simp only [List.map_toArray, List.map_cons, List.map_nil]); first | done | rfl) ?_
          refine (HVal.out _ HK1.out).mono ?_
          rintro e w2 ⟨rfl, hb⟩
          refine ⟨_, rfl, ?_⟩
          have HK2 := Lib.hid hb
          clear hb
          refine hK.out _ _ (HSS.out _ HK2.out) (fun hHeld => ?_)
          clear hK K
          refine norm_ (a' := ?_) ?_ ?_
          rotate_left
          ·
           show Act.put _ (some 19) _ = _
           simp only [Act.put, List.setIfInBounds_toArray, List.set_cons_zero, List.set_cons_succ]
           rfl
          refine pure_ (i := 2) (N := some 20) (v := ?_) (a' := ?_) #[true, true, true, false, false, false, false, false, false, false, false, false, false, false, false, false, false] rfl rfl (by kernel_rfl) (fun _ _ _ h => h) (Or.inl ⟨by rfl, ?_⟩) ?_ ?_
          rotate_left
          ·
           intro w'
           go_simp
           with_reducible rfl
          rotate_left
          ·
           simp only [Act.put, List.setIfInBounds_toArray, List.set_cons_zero, List.set_cons_succ]
           rfl
          refine pure_ (i := 3) (N := some 21) (v := ?_) (a' := ?_) #[true, true, true, true, false, false, false, false, false, false, false, false, false, false, false, false, false] rfl rfl (by kernel_rfl) (fun _ _ _ h => h) (Or.inl ⟨by rfl, ?_⟩) ?_ ?_
          rotate_left
          ·
           intro w'
           go_simp
           with_reducible rfl
          rotate_left
          ·
           simp only [Act.put, List.setIfInBounds_toArray, List.set_cons_zero, List.set_cons_succ]
           rfl
          refine take_ (i := 4) (N := some 22) (v := ?_) (a' := ?_) #[true, true, true, true, true, false, false, false, false, false, false, false, false, false, false, false, false] rfl rfl (by kernel_rfl) (fun _ _ _ h => h) (Or.inl ⟨by rfl, ?_⟩) hHeld ?_ ?_
          rotate_left
          ·
           rintro w' ⟨s0, s1, s2, s3, s4⟩
           go_simp
           with_reducible rfl
          rotate_left
          ·
           simp only [Act.put, List.setIfInBounds_toArray, List.set_cons_zero, List.set_cons_succ]
           rfl
          refine pure_ (i := 5) (N := some 23) (v := ?_) (a' := ?_) #[true, true, true, true, true, true, false, false, false, false, false, false, false, false, false, false, false] rfl rfl (by kernel_rfl) (fun _ _ _ h => h) (Or.inl ⟨by rfl, ?_⟩) ?_ ?_
          rotate_left
          ·
           intro w'
           go_simp
           with_reducible rfl
          rotate_left
          ·
           simp only [Act.put, List.setIfInBounds_toArray, List.set_cons_zero, List.set_cons_succ]
           rfl
          refine take_ (i := 6) (N := some 24) (v := ?_) (a' := ?_) #[true, true, true, true, true, true, true, false, false, false, false, false, false, false, false, false, false] rfl rfl (by kernel_rfl) (fun _ _ _ h => h) (Or.inl ⟨by rfl, ?_⟩) hHeld ?_ ?_
          rotate_left
          ·
           rintro w' ⟨s0, s1, s2, s3, s4⟩
           go_simp
           with_reducible rfl
          rotate_left
          ·
           simp only [Act.put, List.setIfInBounds_toArray, List.set_cons_zero, List.set_cons_succ]
           rfl
          refine pure_ (i := 7) (N := some 25) (v := ?_) (a' := ?_) #[true, true, true, true, true, true, true, true, false, false, false, false, false, false, false, false, false] rfl rfl (by kernel_rfl) (fun _ _ _ h => h) (Or.inl ⟨by rfl, ?_⟩) ?_ ?_
          rotate_left
          ·
           intro w'
           go_simp
           with_reducible rfl
          rotate_left
          ·
           simp only [Act.put, List.setIfInBounds_toArray, List.set_cons_zero, List.set_cons_succ]
           rfl
          refine pure_ (i := 8) (N := some 26) (v := ?_) (a' := ?_) #[true, true, true, true, true, true, true, true, true, false, false, false, false, false, false, false, false] rfl rfl (by kernel_rfl) (fun _ _ _ h => h) (Or.inl ⟨by rfl, ?_⟩) ?_ ?_
          rotate_left
          ·
           intro w'
           go_simp
           with_reducible rfl
          rotate_left
          ·
           simp only [Act.put, List.setIfInBounds_toArray, List.set_cons_zero, List.set_cons_succ]
           rfl
          refine pure_ (i := 9) (N := some 27) (v := ?_) (a' := ?_) #[true, true, true, true, true, true, true, true, true, true, false, false, false, false, false, false, false] rfl rfl (by kernel_rfl) (fun _ _ _ h => h) (Or.inl ⟨by rfl, ?_⟩) ?_ ?_
          rotate_left
          ·
           intro w'
           go_simp
           with_reducible rfl
          rotate_left
          ·
           simp only [Act.put, List.setIfInBounds_toArray, List.set_cons_zero, List.set_cons_succ]
           rfl
          refine pure_ (i := 10) (N := some 28) (v := ?_) (a' := ?_) #[true, true, true, true, true, true, true, true, true, true, true, false, false, false, false, false, false] rfl rfl (by kernel_rfl) (fun _ _ _ h => h) (Or.inl ⟨by rfl, ?_⟩) ?_ ?_
          rotate_left
          ·
           intro w'
           go_simp
           with_reducible rfl
          rotate_left
          ·
           simp only [Act.put, List.setIfInBounds_toArray, List.set_cons_zero, List.set_cons_succ]
           rfl
          refine take_ (i := 11) (N := some 29) (v := ?_) (a' := ?_) #[true, true, true, true, true, true, true, true, true, true, true, true, false, false, false, false, false] rfl rfl (by kernel_rfl) (fun _ _ _ h => h) (Or.inl ⟨by rfl, ?_⟩) hHeld ?_ ?_
          rotate_left
          ·
           rintro w' ⟨s0, s1, s2, s3, s4⟩
           go_simp
           with_reducible rfl
          rotate_left
          ·
           simp only [Act.put, List.setIfInBounds_toArray, List.set_cons_zero, List.set_cons_succ]
           rfl
          refine take_ (i := 12) (N := some 30) (v := ?_) (a' := ?_) #[true, true, true, true, true, true, true, true, true, true, true, true, true, false, false, false, false] rfl rfl (by kernel_rfl) (fun _ _ _ h => h) (Or.inl ⟨by rfl, ?_⟩) hHeld ?_ ?_
          rotate_left
          ·
           rintro w' ⟨s0, s1, s2, s3, s4⟩
           go_simp
           with_reducible rfl
          rotate_left
          ·
           simp only [Act.put, List.setIfInBounds_toArray, List.set_cons_zero, List.set_cons_succ]
           rfl
          refine one_ (i := 13) (N := some 31) #[true, true, true, true, true, true, true, true, true, true, true, true, true, true, false, false, false] rfl rfl (by kernel_rfl) (by decide) (fun K hK => ?_)
          refine goes_ Tryz.func46 (by kernel_rfl) rfl #[.agg #[.int .i64 n', .int .i64 d', .slice A L'.length cc]] (by rfl) rfl rfl (by (try simp only [List.map_toArray, List.map_cons, List.map_nil]); first | done | rfl) ?_
          refine (HTot.out trivial _ HK2.out).mono ?_
          rintro e w3 ⟨rfl, hb⟩
          refine ⟨_, rfl, ?_⟩
          have HK3 := Lib.hid hb
          clear hb
          refine hK.out _ _ (HSS.out _ HK3.out) (fun hHeld => ?_)
          clear hK K
          refine norm_ (a' := ?_) ?_ ?_
          rotate_left
          ·
           show Act.put _ (some 31) _ = _
           simp only [Act.put, List.setIfInBounds_toArray, List.set_cons_zero, List.set_cons_succ]
           rfl
          refine pure_ (i := 14) (N := some 32) (v := ?_) (a' := ?_) #[true, true, true, true, true, true, true, true, true, true, true, true, true, true, true, false, false] rfl rfl (by kernel_rfl) (fun _ _ _ h => h) (Or.inl ⟨by rfl, ?_⟩) ?_ ?_
          rotate_left
          ·
           intro w'
           go_simp
           with_reducible rfl
          rotate_left
          ·
           simp only [Act.put, List.setIfInBounds_toArray, List.set_cons_zero, List.set_cons_succ]
           rfl
          refine pure_ (i := 15) (N := some 33) (v := ?_) (a' := ?_) #[true, true, true, true, true, true, true, true, true, true, true, true, true, true, true, true, false] rfl rfl (by kernel_rfl) (fun _ _ _ h => h) (Or.inl ⟨by rfl, ?_⟩) ?_ ?_
          rotate_left
          ·
           intro w'
           go_simp
           with_reducible rfl
          rotate_left
          ·
           simp only [Act.put, List.setIfInBounds_toArray, List.set_cons_zero, List.set_cons_succ]
           rfl
          refine pure_ (i := 16) (N := some 17) (v := ?_) (a' := ?_) #[true, true, true, true, true, true, true, true, true, true, true, true, true, true, true, true, true] rfl rfl (by kernel_rfl) (fun _ _ _ h => h) (Or.inl ⟨by rfl, ?_⟩) ?_ ?_
          rotate_left
          ·
           intro w'
           go_simp
           with_reducible rfl
          rotate_left
          ·
           simp only [Act.put, List.setIfInBounds_toArray, List.set_cons_zero, List.set_cons_succ]
           rfl
          refine done_ (by kernel_rfl) ?_
          have g5 := (HK3.out.block _ (blk_lt HR5.out)).trans HR5.out
          have r0 : w3.cell? ⟨w.heap.size, 0, none⟩ = some (.int .i64 0) := blk_cell g5 0
          have r1 : w3.cell? ⟨w.heap.size, 1, none⟩ = some (.int .i64 0) := blk_cell g5 1
          have r2 : w3.cell? ⟨w.heap.size, 2, none⟩ = some (.slice none 0 0) := blk_cell g5 2
          have f0 : w3.frozen? ⟨w.heap.size, 0, none⟩ = false := blk_frozen g5 0
          have f1 : w3.frozen? ⟨w.heap.size, 1, none⟩ = false := blk_frozen g5 1
          have f2 : w3.frozen? ⟨w.heap.size, 2, none⟩ = false := blk_frozen g5 2
          obtain ⟨a0, a1, a2, a3, a4⟩ := HSS.out _ HK3.out
          have HLow6 := Lib.hid (below_then HLow.out HLow.out.size HK3.out)
          have HRR6 := Lib.hid (Kd.R_below HRR.out HK3.out)
          have HG5 := Lib.hid g5
          clear g5 hHeld
          go_wp2_with fail
          have hcs := HCase.out
          rw [if_pos trivial, if_neg hs] at hcs
          obtain ⟨rfl, rfl, rfl, rfl⟩ : n = 0 ∧ d = 0 ∧ L = [] ∧ err = 362 := by simpa using hcs
          refine bodyPost_ret (results_row_tmp rfl _ _ w.heap.size _ #[.int .i64 0, .int .i64 0, .slice none 0 0] (0, 0) _ rfl (blk_put (blk_put (blk_put HG5.out 0 _ rfl) 1 _ rfl) 2 _ rfl) Tryz.underlying27 rfl (by kernel_rfl)) rfl ?_
          exact ⟨.slice none 0 0, rfl, Kd.R_nil _ _ _ _ _, ((HLow6.out.setCell (p := ⟨w.heap.size, 0, none⟩) (Nat.le_refl _) _).setCell (p := ⟨w.heap.size, 1, none⟩) (Nat.le_refl _) _).setCell (p := ⟨w.heap.size, 2, none⟩) (Nat.le_refl _) _⟩
      · have hkb : (k' != (L'.length : Int)) = true := by simpa using hk
        go_wp2_with fail
        refine start_ (n := 17) (S := fun w' => w'.cell? ⟨w.heap.size + 1, 0, none⟩ = some (.int .i64 n') ∧ w'.cell? ⟨w.heap.size + 1, 1, none⟩ = some (.int .i64 d') ∧ w'.cell? ⟨w.heap.size + 1, 2, none⟩ = some (.slice A L'.length cc) ∧ w'.cell? ⟨w.heap.size + 1 + 1, 0, none⟩ = some (.int .i64 k') ∧ w'.cell? ⟨w.heap.size + 1 + 1 + 1, 0, none⟩ = some (.int .i64 s')) (ds := []) #[false, false, false, false, false, false, false, false, false, false, false, false, false, false, false, false, false] (by kernel_rfl) rfl rfl (HSS.out _ HK1.out) (fun hHeld => ?_)
        refine take_ (i := 0) (N := some 18) (v := ?_) (a' := ?_) #[true, false, false, false, false, false, false, false, false, false, false, false, false, false, false, false, false] rfl rfl (by kernel_rfl) (fun _ _ _ h => h) (Or.inl ⟨by rfl, ?_⟩) hHeld ?_ ?_
        rotate_left
        ·
         rintro w' ⟨s0, s1, s2, s3, s4⟩
         go_simp
         with_reducible rfl
        rotate_left
        ·
         simp only [Act.put, List.setIfInBounds_toArray, List.set_cons_zero, List.set_cons_succ]
         rfl
        refine one_ (i := 1) (N := some 19) #[true, true, false, false, false, false, false, false, false, false, false, false, false, false, false, false, false] rfl rfl (by kernel_rfl) (by decide) (fun K hK => ?_)
        refine goes_ Tryz.func22 (by kernel_rfl) rfl #[.agg #[.int .i64 n', .int .i64 d', .slice A L'.length cc]] (by rfl) rfl rfl (by (try simp only [List.map_toArray, List.map_cons, List.map_nil]); first | done | rfl) ?_
        refine (HVal.out _ HK1.out).mono ?_
        rintro e w2 ⟨rfl, hb⟩
        refine ⟨_, rfl, ?_⟩
        have HK2 := Lib.hid hb
        clear hb
        refine hK.out _ _ (HSS.out _ HK2.out) (fun hHeld => ?_)
        clear hK K
        refine norm_ (a' := ?_) ?_ ?_
        rotate_left
        ·
         show Act.put _ (some 19) _ = _
         simp only [Act.put, List.setIfInBounds_toArray, List.set_cons_zero, List.set_cons_succ]
         rfl
        refine pure_ (i := 2) (N := some 20) (v := ?_) (a' := ?_) #[true, true, true, false, false, false, false, false, false, false, false, false, false, false, false, false, false] rfl rfl (by kernel_rfl) (fun _ _ _ h => h) (Or.inl ⟨by rfl, ?_⟩) ?_ ?_
        rotate_left
        ·
         intro w'
         go_simp
         with_reducible rfl
        rotate_left
        ·
         simp only [Act.put, List.setIfInBounds_toArray, List.set_cons_zero, List.set_cons_succ]
         rfl
        refine pure_ (i := 3) (N := some 21) (v := ?_) (a' := ?_) #[true, true, true, true, false, false, false, false, false, false, false, false, false, false, false, false, false] rfl rfl (by kernel_rfl) (fun _ _ _ h => h) (Or.inl ⟨by rfl, ?_⟩) ?_ ?_
        rotate_left
        ·
         intro w'
         go_simp
         with_reducible rfl
        rotate_left
        ·
         simp only [Act.put, List.setIfInBounds_toArray, List.set_cons_zero, List.set_cons_succ]
         rfl
        refine take_ (i := 4) (N := some 22) (v := ?_) (a' := ?_) #[true, true, true, true, true, false, false, false, false, false, false, false, false, false, false, false, false] rfl rfl (by kernel_rfl) (fun _ _ _ h => h) (Or.inl ⟨by rfl, ?_⟩) hHeld ?_ ?_
        rotate_left
        ·
         rintro w' ⟨s0, s1, s2, s3, s4⟩
         go_simp
         with_reducible rfl
        rotate_left
        ·
         simp only [Act.put, List.setIfInBounds_toArray, List.set_cons_zero, List.set_cons_succ]
         rfl
        refine pure_ (i := 5) (N := some 23) (v := ?_) (a' := ?_) #[true, true, true, true, true, true, false, false, false, false, false, false, false, false, false, false, false] rfl rfl (by kernel_rfl) (fun _ _ _ h => h) (Or.inl ⟨by rfl, ?_⟩) ?_ ?_
        rotate_left
        ·
         intro w'
         go_simp
         with_reducible rfl
        rotate_left
        ·
         simp only [Act.put, List.setIfInBounds_toArray, List.set_cons_zero, List.set_cons_succ]
         rfl
        refine take_ (i := 6) (N := some 24) (v := ?_) (a' := ?_) #[true, true, true, true, true, true, true, false, false, false, false, false, false, false, false, false, false] rfl rfl (by kernel_rfl) (fun _ _ _ h => h) (Or.inl ⟨by rfl, ?_⟩) hHeld ?_ ?_
        rotate_left
        ·
         rintro w' ⟨s0, s1, s2, s3, s4⟩
         go_simp
         with_reducible rfl
        rotate_left
        ·
         simp only [Act.put, List.setIfInBounds_toArray, List.set_cons_zero, List.set_cons_succ]
         rfl
        refine pure_ (i := 7) (N := some 25) (v := ?_) (a' := ?_) #[true, true, true, true, true, true, true, true, false, false, false, false, false, false, false, false, false] rfl rfl (by kernel_rfl) (fun _ _ _ h => h) (Or.inl ⟨by rfl, ?_⟩) ?_ ?_
        rotate_left
        ·
         intro w'
         go_simp
         with_reducible rfl
        rotate_left
        ·
         simp only [Act.put, List.setIfInBounds_toArray, List.set_cons_zero, List.set_cons_succ]
         rfl
        refine pure_ (i := 8) (N := some 26) (v := ?_) (a' := ?_) #[true, true, true, true, true, true, true, true, true, false, false, false, false, false, false, false, false] rfl rfl (by kernel_rfl) (fun _ _ _ h => h) (Or.inl ⟨by rfl, ?_⟩) ?_ ?_
        rotate_left
        ·
         intro w'
         go_simp
         with_reducible rfl
        rotate_left
        ·
         simp only [Act.put, List.setIfInBounds_toArray, List.set_cons_zero, List.set_cons_succ]
         rfl
        refine pure_ (i := 9) (N := some 27) (v := ?_) (a' := ?_) #[true, true, true, true, true, true, true, true, true, true, false, false, false, false, false, false, false] rfl rfl (by kernel_rfl) (fun _ _ _ h => h) (Or.inl ⟨by rfl, ?_⟩) ?_ ?_
        rotate_left
        ·
         intro w'
         go_simp
         with_reducible rfl
        rotate_left
        ·
         simp only [Act.put, List.setIfInBounds_toArray, List.set_cons_zero, List.set_cons_succ]
         rfl
        refine pure_ (i := 10) (N := some 28) (v := ?_) (a' := ?_) #[true, true, true, true, true, true, true, true, true, true, true, false, false, false, false, false, false] rfl rfl (by kernel_rfl) (fun _ _ _ h => h) (Or.inl ⟨by rfl, ?_⟩) ?_ ?_
        rotate_left
        ·
         intro w'
         go_simp
         with_reducible rfl
        rotate_left
        ·
         simp only [Act.put, List.setIfInBounds_toArray, List.set_cons_zero, List.set_cons_succ]
         rfl
        refine pure_ (i := 11) (N := some 29) (v := undef) (a' := ?_) #[true, true, true, true, true, true, true, true, true, true, true, true, false, false, false, false, false] rfl rfl (by kernel_rfl) (fun _ _ _ h => h) (Or.inr ⟨by rfl, rfl⟩) ?_ ?_
        rotate_left
        ·
         simp only [Act.put, List.setIfInBounds_toArray, List.set_cons_zero, List.set_cons_succ]
         rfl
        refine pure_ (i := 12) (N := some 30) (v := undef) (a' := ?_) #[true, true, true, true, true, true, true, true, true, true, true, true, true, false, false, false, false] rfl rfl (by kernel_rfl) (fun _ _ _ h => h) (Or.inr ⟨by rfl, rfl⟩) ?_ ?_
        rotate_left
        ·
         simp only [Act.put, List.setIfInBounds_toArray, List.set_cons_zero, List.set_cons_succ]
         rfl
        refine pure_ (i := 13) (N := some 31) (v := undef) (a' := ?_) #[true, true, true, true, true, true, true, true, true, true, true, true, true, true, false, false, false] rfl rfl (by kernel_rfl) (fun _ _ _ h => h) (Or.inr ⟨by rfl, rfl⟩) ?_ ?_
        rotate_left
        ·
         simp only [Act.put, List.setIfInBounds_toArray, List.set_cons_zero, List.set_cons_succ]
         rfl
        refine pure_ (i := 14) (N := some 32) (v := undef) (a' := ?_) #[true, true, true, true, true, true, true, true, true, true, true, true, true, true, true, false, false] rfl rfl (by kernel_rfl) (fun _ _ _ h => h) (Or.inr ⟨by rfl, rfl⟩) ?_ ?_
        rotate_left
        ·
         simp only [Act.put, List.setIfInBounds_toArray, List.set_cons_zero, List.set_cons_succ]
         rfl
        refine pure_ (i := 15) (N := some 33) (v := ?_) (a' := ?_) #[true, true, true, true, true, true, true, true, true, true, true, true, true, true, true, true, false] rfl rfl (by kernel_rfl) (fun _ _ _ h => h) (Or.inl ⟨by rfl, ?_⟩) ?_ ?_
        rotate_left
        ·
         intro w'
         go_simp
         with_reducible rfl
        rotate_left
        ·
         simp only [Act.put, List.setIfInBounds_toArray, List.set_cons_zero, List.set_cons_succ]
         rfl
        refine pure_ (i := 16) (N := some 17) (v := ?_) (a' := ?_) #[true, true, true, true, true, true, true, true, true, true, true, true, true, true, true, true, true] rfl rfl (by kernel_rfl) (fun _ _ _ h => h) (Or.inl ⟨by rfl, ?_⟩) ?_ ?_
        rotate_left
        ·
         intro w'
         go_simp
         with_reducible rfl
        rotate_left
        ·
         simp only [Act.put, List.setIfInBounds_toArray, List.set_cons_zero, List.set_cons_succ]
         rfl
        refine done_ (by kernel_rfl) ?_
        have g5 := (HK2.out.block _ (blk_lt HR5.out)).trans HR5.out
        have r0 : w2.cell? ⟨w.heap.size, 0, none⟩ = some (.int .i64 0) := blk_cell g5 0
        have r1 : w2.cell? ⟨w.heap.size, 1, none⟩ = some (.int .i64 0) := blk_cell g5 1
        have r2 : w2.cell? ⟨w.heap.size, 2, none⟩ = some (.slice none 0 0) := blk_cell g5 2
        have f0 : w2.frozen? ⟨w.heap.size, 0, none⟩ = false := blk_frozen g5 0
        have f1 : w2.frozen? ⟨w.heap.size, 1, none⟩ = false := blk_frozen g5 1
        have f2 : w2.frozen? ⟨w.heap.size, 2, none⟩ = false := blk_frozen g5 2
        obtain ⟨a0, a1, a2, a3, a4⟩ := HSS.out _ HK2.out
        have HLow6 := Lib.hid (below_then HLow.out HLow.out.size HK2.out)
        have HRR6 := Lib.hid (Kd.R_below HRR.out HK2.out)
        have HG5 := Lib.hid g5
        clear g5 hHeld
        go_wp2_with fail
        have hcs := HCase.out
        rw [if_pos trivial, if_neg hk] at hcs
        obtain ⟨rfl, rfl, rfl, rfl⟩ : n = 0 ∧ d = 0 ∧ L = [] ∧ err = 362 := by simpa using hcs
        refine bodyPost_ret (results_row_tmp rfl _ _ w.heap.size _ #[.int .i64 0, .int .i64 0, .slice none 0 0] (0, 0) _ rfl (blk_put (blk_put (blk_put HG5.out 0 _ rfl) 1 _ rfl) 2 _ rfl) Tryz.underlying27 rfl (by kernel_rfl)) rfl ?_
        exact ⟨.slice none 0 0, rfl, Kd.R_nil _ _ _ _ _, ((HLow6.out.setCell (p := ⟨w.heap.size, 0, none⟩) (Nat.le_refl _) _).setCell (p := ⟨w.heap.size, 1, none⟩) (Nat.le_refl _) _).setCell (p := ⟨w.heap.size, 2, none⟩) (Nat.le_refl _) _⟩
  · have hcase : (n, d, L, err) = (0, 0, [], c) := by
      rw [← HR.out]
      unfold fileR
      rw [if_neg (by rw [← hc]; exact h0), ← hc]
    obtain ⟨rfl, rfl, rfl, rfl⟩ : n = 0 ∧ d = 0 ∧ L = [] ∧ err = c := by simpa using hcase
    have r0 : w5.cell? ⟨w.heap.size, 0, none⟩ = some (.int .i64 0) := blk_cell hr5 0
    have r1 : w5.cell? ⟨w.heap.size, 1, none⟩ = some (.int .i64 0) := blk_cell hr5 1
    have r2 : w5.cell? ⟨w.heap.size, 2, none⟩ = some (.slice none 0 0) := blk_cell hr5 2
    have f0 : w5.frozen? ⟨w.heap.size, 0, none⟩ = false := blk_frozen hr5 0
    have f1 : w5.frozen? ⟨w.heap.size, 1, none⟩ = false := blk_frozen hr5 1
    have f2 : w5.frozen? ⟨w.heap.size, 2, none⟩ = false := blk_frozen hr5 2
    clear hcase hc hst hlow hr5 hb5
    go_wp2_with fail
    refine bodyPost_ret (results_row_tmp rfl _ _ w.heap.size _ #[.int .i64 0, .int .i64 0, .slice none 0 0] (0, 0) _ rfl (blk_put (blk_put (blk_put HR5.out 0 _ rfl) 1 _ rfl) 2 _ rfl) Tryz.underlying27 rfl (by kernel_rfl)) rfl ?_
    exact ⟨.slice none 0 0, rfl, Kd.R_nil _ _ _ _ _, ((HLow.out.setCell (p := ⟨w.heap.size, 0, none⟩) (Nat.le_refl _) _).setCell (p := ⟨w.heap.size, 1, none⟩) (Nat.le_refl _) _).setCell (p := ⟨w.heap.size, 2, none⟩) (Nat.le_refl _) _⟩
def bank_Read.f (k : Nat) (a0 : ByteArray) : Option (Int × Int × (List (S47)) × Int) := if a0.size ≤ 4611686018427387904 then some (fileR a0.data.toList) else none
theorem bank_Read.calls (k : Nat) (a0 : ByteArray) (r1 : Int) (r2 : Int) (r3 : List (S47)) (r4 : Int) (w : World) (hG : GG w) (h : bank_Read.f k a0 = some (r1, r2, r3, r4)) :
    Calls Tryz.prog 24 #[.string a0] w fun e w' => ∃ v2_ : Value, e = .returned (.tuple #[.agg #[.int .i64 r1, .int .i64 r2, v2_], .int .i64 r4]) ∧ Kd.R k47 47 w' w.heap.size (fun _ => True) v2_ r3 ∧ Below w.heap.size w w' := by
  unfold bank_Read.f at h
  split at h
  · rename_i hs
    have h2 := readFile_go a0.data.toList hs r1 r2 r3 r4 (Option.some.inj h) w hG
    rwa [Bt_of] at h2
  · cases h
end Go.Proofs.YtndojpcjhkncgaaGreatDoor.Q
end

section
namespace Go.Proofs.YtndojpcjhkncgaaGreatDoor.Q
open Go Go.RowKit Go.Proofs.YtndojpcjhkncgaaGreatDoorW.PrintWords
set_option linter.unusedVariables false
set_option linter.unusedSimpArgs false
def ofOrd (o : S47) : List Int := [o.f0, o.f1, o.f2, o.f3, o.f4]
def ofRet (o : S49) : List Int := [o.f0, o.f1]
theorem orders_flat (rs : List (List Int)) (h : ∀ r ∈ rs, r.length = 5) : rs.flatMap (lineL orderW) = (rs.map toOrd).flatMap orderL := by
  induction rs with
  | nil => rfl
  | cons r rs ih =>
    obtain ⟨a, b, c, d, e, rfl⟩ : ∃ a b c d e, r = [a, b, c, d, e] := by
      match r, h r List.mem_cons_self with
      | [a, b, c, d, e], _ => exact ⟨a, b, c, d, e, rfl⟩
    rw [List.flatMap_cons, List.map_cons, List.flatMap_cons, ih (fun r hr => h r (List.mem_cons_of_mem _ hr))]
    rfl
theorem returns_flat (rs : List (List Int)) (h : ∀ r ∈ rs, r.length = 2) : rs.flatMap (lineL returnW) = (rs.map toRet).flatMap returnL := by
  induction rs with
  | nil => rfl
  | cons r rs ih =>
    obtain ⟨a, b, rfl⟩ : ∃ a b, r = [a, b] := by
      match r, h r List.mem_cons_self with
      | [a, b], _ => exact ⟨a, b, rfl⟩
    rw [List.flatMap_cons, List.map_cons, List.flatMap_cons, ih (fun r hr => h r (List.mem_cons_of_mem _ hr))]
    rfl
theorem toOrd_of (L : List S47) : (L.map ofOrd).map toOrd = L := by
  rw [List.map_map]
  exact List.map_id L
theorem toRet_of (L : List S49) : (L.map ofRet).map toRet = L := by
  rw [List.map_map]
  exact List.map_id L
theorem fileL_lines (n d : Int) (L : List S47) (s : Int) : fileL n d L s = lineL payL [n, d, (L.length : Int), s] ++ (L.map ofOrd).flatMap (lineL orderW) := by
  rw [orders_flat _ (fun r hr => by obtain ⟨o, _, rfl⟩ := List.mem_map.mp hr; rfl), toOrd_of]
  rfl
theorem answerL_lines (n d : Int) (L : List S49) : answerL n d L = lineL backL [n, d, (L.length : Int)] ++ (L.map ofRet).flatMap (lineL returnW) := by
  rw [returns_flat _ (fun r hr => by obtain ⟨o, _, rfl⟩ := List.mem_map.mp hr; rfl), toRet_of]
  rfl
theorem fileText_len {n d : Int} {L : List S47} (h : validB n d L = true) : (fileText n d L).length ≤ 114 + 116 * L.length := by
  have := fileL_len h
  unfold fileText
  rw [List.length_append, endL_len]
  omega
theorem answerText_len {n d : Int} {L : List S49} (h : rightB n d L = true) : (answerText n d L).length ≤ 93 + 51 * L.length := by
  have := answerL_len h
  unfold answerText
  rw [List.length_append, endL_len]
  omega
theorem head_in {n d : Int} {L : List S47} (h : validB n d L = true) : ∀ m ∈ [n, d, (L.length : Int), netSum L], numIn m = true := by
  obtain ⟨h0, h1, h2⟩ := valid_orders h
  have h3 := netSum_le L 0 0 (by omega) (by omega) h2
  simp only [datedB, countB, Bool.and_eq_true, decide_eq_true_eq] at h0
  intro m hm
  rw [numIn_iff]
  simp only [List.mem_cons, List.not_mem_nil, or_false] at hm
  omega
theorem order_in {o : S47} (h : orderB o = true) : ∀ m ∈ ofOrd o, numIn m = true := by
  simp only [orderB, countB, Bool.and_eq_true, decide_eq_true_eq] at h
  intro m hm
  rw [numIn_iff]
  simp only [ofOrd, List.mem_cons, List.not_mem_nil, or_false] at hm
  omega
theorem headA_in {n d : Int} {L : List S49} (h : rightB n d L = true) : ∀ m ∈ [n, d, (L.length : Int)], numIn m = true := by
  obtain ⟨_, h0, h1⟩ := right_parts h
  simp only [datedB, countB, Bool.and_eq_true, decide_eq_true_eq] at h0
  intro m hm
  rw [numIn_iff]
  simp only [List.mem_cons, List.not_mem_nil, or_false] at hm
  omega
theorem back_in {o : S49} (h : backB o = true) : ∀ m ∈ ofRet o, numIn m = true := by
  simp only [backB, countB, Bool.and_eq_true, decide_eq_true_eq] at h
  intro m hm
  rw [numIn_iff]
  simp only [ofRet, List.mem_cons, List.not_mem_nil, or_false] at hm
  omega
theorem fileR_text (n d : Int) (L : List S47) (h : validB n d L = true) : fileR (fileText n d L) = (n, d, L, 0) := by
  have hl := fileText_len h
  obtain ⟨v0, v1, v2⟩ := valid_orders h
  have ht : fileText n d L = (lineL payL [n, d, (L.length : Int), netSum L] ++ (L.map ofOrd).flatMap (lineL orderW)) ++ endL (lineL payL [n, d, (L.length : Int), netSum L] ++ (L.map ofOrd).flatMap (lineL orderW)) := by unfold fileText; rw [fileL_lines]
  rw [ht] at hl ⊢
  obtain ⟨r1, r2, r3, r4⟩ := text_read payL orderW (by decide) (by decide) (by decide) (by decide) 4 5 [n, d, (L.length : Int), netSum L] (L.map ofOrd) ⟨rfl, head_in h⟩ (fun r hr => by
    obtain ⟨o, ho, rfl⟩ := List.mem_map.mp hr
    exact ⟨rfl, order_in (orders_mem L 0 0 v2 o ho)⟩) (by omega)
  unfold fileR
  rw [if_pos r1, r2, fileSt_mk _ _ _ _ r3 r4, toOrd_of]
  show (if validB n d L = true then (if (L.length : Int) = (L.length : Int) then (if netSum L = netSum L then (n, d, L, (0 : Int)) else (0, 0, [], 362)) else (0, 0, [], 362)) else (0, 0, [], 362)) = _
  rw [if_pos h, if_pos rfl, if_pos rfl]
theorem fileR_answer (n d : Int) (L : List S49) (h : rightB n d L = true) : fileR (answerText n d L) = (0, 0, [], 360) := by
  have hl := answerText_len h
  obtain ⟨_, _, v2⟩ := right_parts h
  have ht : answerText n d L = (lineL backL [n, d, (L.length : Int)] ++ (L.map ofRet).flatMap (lineL returnW)) ++ endL (lineL backL [n, d, (L.length : Int)] ++ (L.map ofRet).flatMap (lineL returnW)) := by unfold answerText; rw [answerL_lines]
  rw [ht] at hl ⊢
  have r := text_other backL returnW (by decide) (by decide) payL orderW (by decide) 4 5 66 80 _ _ rfl rfl (by decide) [n, d, (L.length : Int)] (L.map ofRet) (by omega)
  unfold fileR
  rw [if_neg (by rw [r]; decide), r]
theorem answerR_text (n d : Int) (L : List S49) (h : rightB n d L = true) : answerR (answerText n d L) = (n, d, L, 0) := by
  have hl := answerText_len h
  obtain ⟨v2, v0, v1⟩ := right_parts h
  have ht : answerText n d L = (lineL backL [n, d, (L.length : Int)] ++ (L.map ofRet).flatMap (lineL returnW)) ++ endL (lineL backL [n, d, (L.length : Int)] ++ (L.map ofRet).flatMap (lineL returnW)) := by unfold answerText; rw [answerL_lines]
  rw [ht] at hl ⊢
  obtain ⟨r1, r2, r3, r4⟩ := text_read backL returnW (by decide) (by decide) (by decide) (by decide) 3 2 [n, d, (L.length : Int)] (L.map ofRet) ⟨rfl, headA_in h⟩ (fun r hr => by
    obtain ⟨o, ho, rfl⟩ := List.mem_map.mp hr
    exact ⟨rfl, back_in (backs_mem L 0 v2 o ho)⟩) (by omega)
  unfold answerR
  rw [if_pos r1, r2, answerSt_mk _ _ _ _ r3 r4, toRet_of]
  show (if rightB n d L = true then (if (L.length : Int) = (L.length : Int) then (n, d, L, (0 : Int)) else (0, 0, [], 362)) else (0, 0, [], 362)) = _
  rw [if_pos h, if_pos rfl]
theorem answerR_file (n d : Int) (L : List S47) (h : validB n d L = true) : answerR (fileText n d L) = (0, 0, [], 360) := by
  have hl := fileText_len h
  obtain ⟨_, v1, _⟩ := valid_orders h
  have ht : fileText n d L = (lineL payL [n, d, (L.length : Int), netSum L] ++ (L.map ofOrd).flatMap (lineL orderW)) ++ endL (lineL payL [n, d, (L.length : Int), netSum L] ++ (L.map ofOrd).flatMap (lineL orderW)) := by unfold fileText; rw [fileL_lines]
  rw [ht] at hl ⊢
  have r := text_other payL orderW (by decide) (by decide) backL returnW (by decide) 3 2 80 66 _ _ rfl rfl (by decide) [n, d, (L.length : Int), netSum L] (L.map ofOrd) (by omega)
  unfold answerR
  rw [if_neg (by rw [r]; decide), r]
theorem Read_ev (t : List UInt8) (h : t.length ≤ 4611686018427387904) : Ev (fun k => bank_Read.f k (B t)) (fileR t) := ⟨0, fun k _ => by
  unfold bank_Read.f
  rw [if_pos (by rw [B_size]; exact h)]
  have : (B t).data.toList = t := by simp [B]
  rw [this]⟩
theorem ReadAnswer_ev (t : List UInt8) (h : t.length ≤ 4611686018427387904) : Ev (fun k => bank_ReadAnswer.f k (B t)) (answerR t) := ⟨0, fun k _ => by
  unfold bank_ReadAnswer.f
  rw [if_pos (by rw [B_size]; exact h)]
  have : (B t).data.toList = t := by simp [B]
  rw [this]⟩
end Go.Proofs.YtndojpcjhkncgaaGreatDoor.Q
end

section
namespace Go.Proofs.YtndojpcjhkncgaaGreatDoor.Q
open Go.RowKit Go.Proofs.YtndojpcjhkncgaaGreatDoorW.PrintWords Go.Proofs.YtndojpcjhkncgaaGreatDoorW.PrintLast Go.Proofs.YtndojpcjhkncgaaGreatDoorW.PrintMore
attribute [local go_sem] max2_int min2_int max_two min_two max_three min_three max_four min_four   -- for this text's walks alone
set_option linter.unusedVariables false
set_option linter.unusedSimpArgs false
attribute [local go_sem high] eqA47
def annuitantlaw36_sameOrders.l0 : Nat → List (S47) → List (S47) → Int → Option (Bool)
 | 0, _, _, _ => none
 | k + 1, x0, x1, x5 => if x5 < (x0.length : Int) then (if 0 ≤ x5 then (if x5 < (x1.length : Int) then (if (!(((rd_T47 x0 x5).f0) == ((rd_T47 x1 x5).f0)) || (!(((rd_T47 x0 x5).f1) == ((rd_T47 x1 x5).f1)) || (!(((rd_T47 x0 x5).f2) == ((rd_T47 x1 x5).f2)) || (!(((rd_T47 x0 x5).f3) == ((rd_T47 x1 x5).f3)) || (!(((rd_T47 x0 x5).f4) == ((rd_T47 x1 x5).f4))))))) = true then (some false) else (annuitantlaw36_sameOrders.l0 k x0 x1 (wrap64 (x5 + 1)))) else (none)) else (none)) else (some true)
def annuitantlaw36_sameOrders.f (k : Nat) (l0 : List (S47)) (l1 : List (S47)) : Option (Bool) := if (l0.length : Int) = (l1.length : Int) then (annuitantlaw36_sameOrders.l0 k l0 l1 0) else (some false)
set_option maxHeartbeats 8000000 in
set_option maxRecDepth 100000 in
theorem annuitantlaw36_sameOrders.calls (k : Nat) (A0 : Option Addr) (c0 : Nat) (l0 : List (S47)) (A1 : Option Addr) (c1 : Nat) (l1 : List (S47)) (r : Bool) (w : World) (hr0 : Kd.C k47 w A0 l0.length l0) (hc0 : l0.length ≤ c0) (hr1 : Kd.C k47 w A1 l1.length l1) (hc1 : l1.length ≤ c1) (h : annuitantlaw36_sameOrders.f k l0 l1 = some r) :
  Calls Tryz.prog 41 #[.slice A0 l0.length c0, .slice A1 l1.length c1] w fun e w' => e = .returned (.bool r) ∧ Drawn0 w w' := by
 have hu47 := Tryz.underlying47; have HR0 := Aside0.mk hr0; have HC0 := Aside0.mk hc0; clear hr0 hc0; have HR1 := Aside0.mk hr1; have HC1 := Aside0.mk hc1; clear hr1 hc1; have H : (if (l0.length : Int) = (l1.length : Int) then (annuitantlaw36_sameOrders.l0 k l0 l1 0) else (some false)) = some r := h; clear h
 by_cases c3 : (l0.length : Int) = (l1.length : Int)
 ·
  rw [if_pos c3] at H
  have c3b0 : ((l0.length : Int) == (l1.length : Int)) = true := beq_iff_eq.mpr c3; have c3b1 : ((l0.length : Int) != (l1.length : Int)) = false := bne_eq_false_iff_eq.mpr c3
  have c3b2 : (l0.length == l1.length) = true := by first | simpa using c3 | (simp at c3 ⊢; omega)
  clear c3; have H' := Aside0.mk H; clear H
  go_enter Tryz.func41, Tryz.ntmps41
  go_wp2
  repeat (go_quiet (skip); try go_wp2)
  go_loopg [5] k (fun kq v5 w' => ∃ (x5_1 : Int), v5 = .int .i64 x5_1 ∧ Aside0 (annuitantlaw36_sameOrders.l0 kq l0 l1 x5_1 = some r) ∧ Aside0 (kq ≤ k) ∧ Drawn0 w w')
  case atStart => exact ⟨(0), (by first | rfl | (simp; done) | (simp [*]; done)), H', ⟨Nat.le_refl _⟩, by repeat (first | exact Drawn0.refl _ | apply Drawn0.step)⟩
  case round =>
   clear H'
   try clear c1
   try clear p2
   try clear c3
   try clear c3b0
   try clear c3b1
   try clear c3b2
   obtain ⟨x5_1, rfl, HA, HK1, ⟨m1, rfl⟩⟩ := hrel
   cases gk with
   | zero => exact absurd HA.out (by simp [annuitantlaw36_sameOrders.l0])
   | succ k1 =>
    have H := HA.out; clear HA
    simp only [annuitantlaw36_sameOrders.l0] at H
    by_cases c4 : x5_1 < (l0.length : Int)
    ·
     rw [if_pos c4] at H
     have c4b0 : decide (x5_1 < (l0.length : Int)) = true := decide_eq_true c4; clear c4
     by_cases c5 : 0 ≤ x5_1
     ·
      rw [if_pos c5] at H
      have c5b0 : decide (0 ≤ x5_1) = true := decide_eq_true c5; clear c5
      by_cases c6 : x5_1 < (l1.length : Int)
      ·
       rw [if_pos c6] at H
       have c6b0 : decide (x5_1 < (l1.length : Int)) = true := decide_eq_true c6; clear c6
       by_cases c7 : (!(((rd_T47 l0 x5_1).f0) == ((rd_T47 l1 x5_1).f0)) || (!(((rd_T47 l0 x5_1).f1) == ((rd_T47 l1 x5_1).f1)) || (!(((rd_T47 l0 x5_1).f2) == ((rd_T47 l1 x5_1).f2)) || (!(((rd_T47 l0 x5_1).f3) == ((rd_T47 l1 x5_1).f3)) || (!(((rd_T47 l0 x5_1).f4) == ((rd_T47 l1 x5_1).f4))))))) = true
       ·
        rw [if_pos c7] at H
        have c7b0 : (!(((rd_T47 l0 x5_1).f0) == ((rd_T47 l1 x5_1).f0)) || (!(((rd_T47 l0 x5_1).f1) == ((rd_T47 l1 x5_1).f1)) || (!(((rd_T47 l0 x5_1).f2) == ((rd_T47 l1 x5_1).f2)) || (!(((rd_T47 l0 x5_1).f3) == ((rd_T47 l1 x5_1).f3)) || (!(((rd_T47 l0 x5_1).f4) == ((rd_T47 l1 x5_1).f4))))))) = true := c7; clear c7; obtain rfl := Option.some.inj H; have p212 : 0 ≤ (x5_1 : Int) := zD; have q212 : x5_1 < (l0.length : Int) := zD; obtain ⟨ad212, e212, hx212_0, hx212_1, hx212_2, hx212_3, hx212_4⟩ := at_T47 HR0.out x5_1 p212 q212
        cases e212
        replace p212 := eq_true p212; replace q212 := eq_true q212; have p213 : 0 ≤ (x5_1 : Int) := zD; have q213 : x5_1 < (l1.length : Int) := zD; obtain ⟨ad213, e213, hx213_0, hx213_1, hx213_2, hx213_3, hx213_4⟩ := at_T47 HR1.out x5_1 p213 q213
        cases e213
        replace p213 := eq_true p213; replace q213 := eq_true q213
        go_wp2
        repeat (go_quiet (skip); try go_wp2)
        go_ret
        exact ⟨by first | rfl | (simp; done) | (simp [*]; done), by repeat (first | exact Drawn0.refl _ | apply Drawn0.step)⟩
       ·
        rw [if_neg c7] at H
        have c7b0 : (!(((rd_T47 l0 x5_1).f0) == ((rd_T47 l1 x5_1).f0)) || (!(((rd_T47 l0 x5_1).f1) == ((rd_T47 l1 x5_1).f1)) || (!(((rd_T47 l0 x5_1).f2) == ((rd_T47 l1 x5_1).f2)) || (!(((rd_T47 l0 x5_1).f3) == ((rd_T47 l1 x5_1).f3)) || (!(((rd_T47 l0 x5_1).f4) == ((rd_T47 l1 x5_1).f4))))))) = false := by simpa using c7
        clear c7; have H' := Aside0.mk H; clear H; have p212 : 0 ≤ (x5_1 : Int) := zD; have q212 : x5_1 < (l0.length : Int) := zD; obtain ⟨ad212, e212, hx212_0, hx212_1, hx212_2, hx212_3, hx212_4⟩ := at_T47 HR0.out x5_1 p212 q212
        cases e212
        replace p212 := eq_true p212; replace q212 := eq_true q212; have p213 : 0 ≤ (x5_1 : Int) := zD; have q213 : x5_1 < (l1.length : Int) := zD; obtain ⟨ad213, e213, hx213_0, hx213_1, hx213_2, hx213_3, hx213_4⟩ := at_T47 HR1.out x5_1 p213 q213
        cases e213
        replace p213 := eq_true p213; replace q213 := eq_true q213
        go_wp2
        repeat (go_quiet (skip); try go_wp2)
        go_roundg k1
        case measure => have := HK1.out; omega
        case rel => exact ⟨(wrap64 (x5_1 + 1)), (by first | rfl | (simp; done) | (simp [*]; done)), H', ⟨by have := HK1.out; omega⟩, by repeat (first | exact Drawn0.refl _ | apply Drawn0.step)⟩
      ·
       rw [if_neg c6] at H
       exact absurd H (by simp)
     ·
      rw [if_neg c5] at H
      exact absurd H (by simp)
    ·
     rw [if_neg c4] at H
     have c4b0 : decide (x5_1 < (l0.length : Int)) = false := decide_eq_false c4; clear c4; obtain rfl := Option.some.inj H
     go_wp2
     repeat (go_quiet (skip); try go_wp2)
     go_ret
     exact ⟨by first | rfl | (simp; done) | (simp [*]; done), by repeat (first | exact Drawn0.refl _ | apply Drawn0.step)⟩
 ·
  rw [if_neg c3] at H
  have c3b0 : ((l0.length : Int) == (l1.length : Int)) = false := beq_eq_false_iff_ne.mpr c3; have c3b1 : ((l0.length : Int) != (l1.length : Int)) = true := bne_iff_ne.mpr c3
  have c3b2 : (l0.length == l1.length) = false := by first | simpa using c3 | (simp at c3 ⊢; omega)
  obtain rfl := Option.some.inj H
  go_enter Tryz.func41, Tryz.ntmps41
  go_wp2
  repeat (go_quiet (skip); try go_wp2)
  go_ret
  exact ⟨by first | rfl | (simp; done) | (simp [*]; done), by repeat (first | exact Drawn0.refl _ | apply Drawn0.step)⟩
end Go.Proofs.YtndojpcjhkncgaaGreatDoor.Q
end

section
namespace Go.Proofs.YtndojpcjhkncgaaGreatDoor.Q
open Go.RowKit Go.Proofs.YtndojpcjhkncgaaGreatDoorW.PrintWords Go.Proofs.YtndojpcjhkncgaaGreatDoorW.PrintLast Go.Proofs.YtndojpcjhkncgaaGreatDoorW.PrintMore
attribute [local go_sem] max2_int min2_int max_two min_two max_three min_three max_four min_four   -- for this text's walks alone
set_option linter.unusedVariables false
set_option linter.unusedSimpArgs false
def annuitantlaw36_sameFile.f (k : Nat) (a0_0 : Int) (a0_1 : Int) (l0_2 : List (S47)) (a1_0 : Int) (a1_1 : Int) (l1_2 : List (S47)) : Option (Bool) := if a0_0 = a1_0 then (if a0_1 = a1_1 then ((annuitantlaw36_sameOrders.f k l0_2 l1_2).bind fun t216 => (some t216)) else (some false)) else (some false)
set_option maxHeartbeats 8000000 in
set_option maxRecDepth 100000 in
theorem annuitantlaw36_sameFile.calls (k : Nat) (a0_0 : Int) (a0_1 : Int) (A0_2 : Option Addr) (c0_2 : Nat) (l0_2 : List (S47)) (a1_0 : Int) (a1_1 : Int) (A1_2 : Option Addr) (c1_2 : Nat) (l1_2 : List (S47)) (r : Bool) (w : World) (hr0_2 : Kd.C k47 w A0_2 l0_2.length l0_2) (hc0_2 : l0_2.length ≤ c0_2) (hr1_2 : Kd.C k47 w A1_2 l1_2.length l1_2) (hc1_2 : l1_2.length ≤ c1_2) (h : annuitantlaw36_sameFile.f k a0_0 a0_1 l0_2 a1_0 a1_1 l1_2 = some r) :
  Calls Tryz.prog 27 #[.agg #[.int .i64 a0_0, .int .i64 a0_1, .slice A0_2 l0_2.length c0_2], .agg #[.int .i64 a1_0, .int .i64 a1_1, .slice A1_2 l1_2.length c1_2]] w fun e w' => e = .returned (.bool r) ∧ Below w.heap.size w w' := by
 have hu36 := Tryz.underlying36; have HR0_2 := Aside0.mk hr0_2; have HC0_2 := Aside0.mk hc0_2; clear hr0_2 hc0_2; have HR1_2 := Aside0.mk hr1_2; have HC1_2 := Aside0.mk hc1_2; clear hr1_2 hc1_2; have HB := Aside0.mk (Below.refl w.heap.size w); have H : (if a0_0 = a1_0 then (if a0_1 = a1_1 then ((annuitantlaw36_sameOrders.f k l0_2 l1_2).bind fun t216 => (some t216)) else (some false)) else (some false)) = some r := h; clear h
 by_cases c3 : a0_0 = a1_0
 ·
  rw [if_pos c3] at H
  have c3b0 : (a0_0 == a1_0) = true := beq_iff_eq.mpr c3; have c3b1 : (a0_0 != a1_0) = false := bne_eq_false_iff_eq.mpr c3; clear c3
  by_cases c4 : a0_1 = a1_1
  ·
   rw [if_pos c4] at H
   have c4b0 : (a0_1 == a1_1) = true := beq_iff_eq.mpr c4; have c4b1 : (a0_1 != a1_1) = false := bne_eq_false_iff_eq.mpr c4; clear c4; replace H := Option.bind_eq_some_iff.mp H; obtain ⟨t216, A50, H⟩ := H; replace H : (some t216) = some r := H; have A5 := Aside0.mk A50; clear A50; obtain rfl := Option.some.inj H
   go_enter Tryz.func27, Tryz.ntmps27
   go_wp2_with (first | ((with_reducible refine gate_dst (N := 2) rfl ?_); refine box_event ?hg (N := 2) ?hd (cs := #[.int .i64 a0_0, .int .i64 a0_1, .slice A0_2 l0_2.length c0_2]) (t := 36) ?hr ?_; (case hd => rfl); (case hg => rfl); (case hr => first | (go_simp; done) | (go_simp; rfl)); intro gb214 hg w6 hbox hb; have BK214 := Aside0.mk (hbox); have GW214 := zG (w := w) hg; have GE214 := zG (w := w) hg; replace HB := zBs hb; clear hb hbox hg) | ((with_reducible refine gate_dst (N := 3) rfl ?_); refine box_event ?hg (N := 3) ?hd (cs := #[.int .i64 a1_0, .int .i64 a1_1, .slice A1_2 l1_2.length c1_2]) (t := 36) ?hr ?_; (case hd => rfl); (case hg => rfl); (case hr => first | (go_simp; done) | (go_simp; rfl)); intro gb215 hg w7 hbox hb; have BK215 := Aside0.mk (hbox); have GW215 := zG (w := w) hg; have GE215 := zG (w := w) hg; replace HB := zBs hb; have NB214_215 := zN hg (zK BK214); have NB215_214 := zM hg (zK BK214); replace BK214 := zKb BK214 hb; clear hb hbox hg; have hnb8 := NB214_215.out; have hnc8 := NB215_214.out; obtain ⟨hcz9_0, hcz9_1, hcz9_2⟩ := zC3 BK214; obtain ⟨hfz9_0, hfz9_1, hfz9_2⟩ := zZ3 BK214; obtain ⟨hcz10_0, hcz10_1, hcz10_2⟩ := zC3 BK215; obtain ⟨hfz10_0, hfz10_1, hfz10_2⟩ := zZ3 BK215) | (go_at_call 41; (with_reducible refine (annuitantlaw36_sameOrders.calls k _ _ l0_2 _ _ l1_2 t216 _ ?side1 ?side2 ?side3 ?side4 A5.out).mono ?_); (case side1 => repeat (first | exact (Kd.C_below HR0_2.out HB.out) | (with_reducible refine Kd.C_alloc ?_ _) | (with_reducible refine Kd.C_drewN ?_ _) | (with_reducible refine Kd.C_drew ?_))); (case side2 => exact HC0_2.out); (case side3 => repeat (first | exact (Kd.C_below HR1_2.out HB.out) | (with_reducible refine Kd.C_alloc ?_ _) | (with_reducible refine Kd.C_drewN ?_ _) | (with_reducible refine Kd.C_drew ?_))); (case side4 => exact HC1_2.out); rintro e w' ⟨rfl, ⟨nd, rfl⟩⟩))
   go_ret
   exact ⟨zE, zB⟩
  ·
   rw [if_neg c4] at H
   have c4b0 : (a0_1 == a1_1) = false := beq_eq_false_iff_ne.mpr c4; have c4b1 : (a0_1 != a1_1) = true := bne_iff_ne.mpr c4; obtain rfl := Option.some.inj H
   go_enter Tryz.func27, Tryz.ntmps27
   go_wp2_with (first | ((with_reducible refine gate_dst (N := 2) rfl ?_); refine box_event ?hg (N := 2) ?hd (cs := #[.int .i64 a0_0, .int .i64 a0_1, .slice A0_2 l0_2.length c0_2]) (t := 36) ?hr ?_; (case hd => rfl); (case hg => rfl); (case hr => first | (go_simp; done) | (go_simp; rfl)); intro gb214 hg w11 hbox hb; have BK214 := Aside0.mk (hbox); have GW214 := zG (w := w) hg; have GE214 := zG (w := w) hg; replace HB := zBs hb; clear hb hbox hg) | ((with_reducible refine gate_dst (N := 3) rfl ?_); refine box_event ?hg (N := 3) ?hd (cs := #[.int .i64 a1_0, .int .i64 a1_1, .slice A1_2 l1_2.length c1_2]) (t := 36) ?hr ?_; (case hd => rfl); (case hg => rfl); (case hr => first | (go_simp; done) | (go_simp; rfl)); intro gb215 hg w12 hbox hb; have BK215 := Aside0.mk (hbox); have GW215 := zG (w := w) hg; have GE215 := zG (w := w) hg; replace HB := zBs hb; have NB214_215 := zN hg (zK BK214); have NB215_214 := zM hg (zK BK214); replace BK214 := zKb BK214 hb; clear hb hbox hg; have hnb13 := NB214_215.out; have hnc13 := NB215_214.out; obtain ⟨hcz14_0, hcz14_1, hcz14_2⟩ := zC3 BK214; obtain ⟨hfz14_0, hfz14_1, hfz14_2⟩ := zZ3 BK214; obtain ⟨hcz15_0, hcz15_1, hcz15_2⟩ := zC3 BK215; obtain ⟨hfz15_0, hfz15_1, hfz15_2⟩ := zZ3 BK215))
   go_ret
   exact ⟨zE, zB⟩
 ·
  rw [if_neg c3] at H
  have c3b0 : (a0_0 == a1_0) = false := beq_eq_false_iff_ne.mpr c3; have c3b1 : (a0_0 != a1_0) = true := bne_iff_ne.mpr c3; obtain rfl := Option.some.inj H
  go_enter Tryz.func27, Tryz.ntmps27
  go_wp2_with (first | ((with_reducible refine gate_dst (N := 2) rfl ?_); refine box_event ?hg (N := 2) ?hd (cs := #[.int .i64 a0_0, .int .i64 a0_1, .slice A0_2 l0_2.length c0_2]) (t := 36) ?hr ?_; (case hd => rfl); (case hg => rfl); (case hr => first | (go_simp; done) | (go_simp; rfl)); intro gb214 hg w16 hbox hb; have BK214 := Aside0.mk (hbox); have GW214 := zG (w := w) hg; have GE214 := zG (w := w) hg; replace HB := zBs hb; clear hb hbox hg) | ((with_reducible refine gate_dst (N := 3) rfl ?_); refine box_event ?hg (N := 3) ?hd (cs := #[.int .i64 a1_0, .int .i64 a1_1, .slice A1_2 l1_2.length c1_2]) (t := 36) ?hr ?_; (case hd => rfl); (case hg => rfl); (case hr => first | (go_simp; done) | (go_simp; rfl)); intro gb215 hg w17 hbox hb; have BK215 := Aside0.mk (hbox); have GW215 := zG (w := w) hg; have GE215 := zG (w := w) hg; replace HB := zBs hb; have NB214_215 := zN hg (zK BK214); have NB215_214 := zM hg (zK BK214); replace BK214 := zKb BK214 hb; clear hb hbox hg; have hnb18 := NB214_215.out; have hnc18 := NB215_214.out; obtain ⟨hcz19_0, hcz19_1, hcz19_2⟩ := zC3 BK214; obtain ⟨hfz19_0, hfz19_1, hfz19_2⟩ := zZ3 BK214; obtain ⟨hcz20_0, hcz20_1, hcz20_2⟩ := zC3 BK215; obtain ⟨hfz20_0, hfz20_1, hfz20_2⟩ := zZ3 BK215))
  go_ret
  exact ⟨zE, zB⟩
end Go.Proofs.YtndojpcjhkncgaaGreatDoor.Q
end

section
namespace Go.Proofs.YtndojpcjhkncgaaGreatDoor.Q
open Go.RowKit Go.Proofs.YtndojpcjhkncgaaGreatDoorW.PrintWords Go.Proofs.YtndojpcjhkncgaaGreatDoorW.PrintLast Go.Proofs.YtndojpcjhkncgaaGreatDoorW.PrintMore
attribute [local go_sem] max2_int min2_int max_two min_two max_three min_three max_four min_four   -- for this text's walks alone
set_option linter.unusedVariables false
set_option linter.unusedSimpArgs false
theorem eqA78 (d : Nat) (w : World) (x0 y0 : Int) (x1 y1 : Int) :
    (Op.equalIn (d + 2) 78 (.agg #[.int .i64 x0, .int .i64 x1]) (.agg #[.int .i64 y0, .int .i64 y1])).run Tryz.prog w = .ok (x0 == y0 && (x1 == y1)) w := by
  refine eqA_of Tryz.underlying78 (by kernel_rfl) ?_
  refine eqf_cons (by rfl) (by go_simp; rfl) (by go_simp; rfl) (by go_simp) ?_
  exact eqf_last (by rfl) (by go_simp; rfl) (by go_simp; rfl) (by go_simp)
end Go.Proofs.YtndojpcjhkncgaaGreatDoor.Q
end

section
namespace Go.Proofs.YtndojpcjhkncgaaGreatDoor.Q
open Go.RowKit Go.Proofs.YtndojpcjhkncgaaGreatDoorW.PrintWords Go.Proofs.YtndojpcjhkncgaaGreatDoorW.PrintLast Go.Proofs.YtndojpcjhkncgaaGreatDoorW.PrintMore
attribute [local go_sem] max2_int min2_int max_two min_two max_three min_three max_four min_four   -- for this text's walks alone
set_option linter.unusedVariables false
set_option linter.unusedSimpArgs false
attribute [local go_sem high] eqA78
mutual
def annuitantlaw36_sameAnswer.j0 : Nat → Bool → Int → Int → List (S78) → Int → Int → List (S78) → Option (Bool)
 | 0, _, _, _, _, _, _, _ => none
 | k + 1, x26, x218000, x218001, x218002, x219000, x219001, x219002 => if x26 = true then (some false) else (annuitantlaw36_sameAnswer.l0 k 0 x218000 x218001 x218002 x219000 x219001 x219002)
def annuitantlaw36_sameAnswer.l0 : Nat → Int → Int → Int → List (S78) → Int → Int → List (S78) → Option (Bool)
 | 0, _, _, _, _, _, _, _ => none
 | k + 1, x5, x218000, x218001, x218002, x219000, x219001, x219002 => if x5 < (x218002.length : Int) then (if 0 ≤ x5 then (if x5 < (x219002.length : Int) then (if (!(((rd_T78 x218002 x5).f0) == ((rd_T78 x219002 x5).f0)) || (!(((rd_T78 x218002 x5).f1) == ((rd_T78 x219002 x5).f1)))) = true then (some false) else (annuitantlaw36_sameAnswer.l0 k (wrap64 (x5 + 1)) x218000 x218001 x218002 x219000 x219001 x219002)) else (none)) else (none)) else (some true)
end
def annuitantlaw36_sameAnswer.f (k : Nat) (a0_0 : Int) (a0_1 : Int) (l0_2 : List (S78)) (a1_0 : Int) (a1_1 : Int) (l1_2 : List (S78)) : Option (Bool) := if a0_0 = a1_0 then (if a0_1 = a1_1 then (annuitantlaw36_sameAnswer.j0 k ((l0_2.length : Int) != (l1_2.length : Int)) a0_0 a0_1 l0_2 a1_0 a1_1 l1_2) else (annuitantlaw36_sameAnswer.j0 k true a0_0 a0_1 l0_2 a1_0 a1_1 l1_2)) else (annuitantlaw36_sameAnswer.j0 k true a0_0 a0_1 l0_2 a1_0 a1_1 l1_2)
set_option maxHeartbeats 8000000 in
set_option maxRecDepth 100000 in
theorem annuitantlaw36_sameAnswer.calls (k : Nat) (a0_0 : Int) (a0_1 : Int) (A0_2 : Option Addr) (c0_2 : Nat) (l0_2 : List (S78)) (a1_0 : Int) (a1_1 : Int) (A1_2 : Option Addr) (c1_2 : Nat) (l1_2 : List (S78)) (r : Bool) (w : World) (hr0_2 : Kd.C k78 w A0_2 l0_2.length l0_2) (hc0_2 : l0_2.length ≤ c0_2) (hr1_2 : Kd.C k78 w A1_2 l1_2.length l1_2) (hc1_2 : l1_2.length ≤ c1_2) (h : annuitantlaw36_sameAnswer.f k a0_0 a0_1 l0_2 a1_0 a1_1 l1_2 = some r) :
  Calls Tryz.prog 30 #[.agg #[.int .i64 a0_0, .int .i64 a0_1, .slice A0_2 l0_2.length c0_2], .agg #[.int .i64 a1_0, .int .i64 a1_1, .slice A1_2 l1_2.length c1_2]] w fun e w' => e = .returned (.bool r) ∧ Below w.heap.size w w' := by
 have hu41 := Tryz.underlying41; have hu78 := Tryz.underlying78; have HR0_2 := Aside0.mk hr0_2; have HC0_2 := Aside0.mk hc0_2; clear hr0_2 hc0_2; have HR1_2 := Aside0.mk hr1_2; have HC1_2 := Aside0.mk hc1_2; clear hr1_2 hc1_2; have HB := Aside0.mk (Below.refl w.heap.size w); have H : (if a0_0 = a1_0 then (if a0_1 = a1_1 then (annuitantlaw36_sameAnswer.j0 k ((l0_2.length : Int) != (l1_2.length : Int)) a0_0 a0_1 l0_2 a1_0 a1_1 l1_2) else (annuitantlaw36_sameAnswer.j0 k true a0_0 a0_1 l0_2 a1_0 a1_1 l1_2)) else (annuitantlaw36_sameAnswer.j0 k true a0_0 a0_1 l0_2 a1_0 a1_1 l1_2)) = some r := h; clear h; have HC3 := Aside0.mk H; clear H
 go_enter Tryz.func30, Tryz.ntmps30
 go_upto_region 1 with (first | ((with_reducible refine gate_dst (N := 2) rfl ?_); (try (refine gate_guard (by rfl) ?_; dsimp only)); refine box_event ?hg (N := 2) ?hd (cs := #[.int .i64 a0_0, .int .i64 a0_1, .slice A0_2 l0_2.length c0_2]) (t := 41) ?hr ?_; (case hd => rfl); (case hg => rfl); (case hr => first | (go_simp; done) | (go_simp; rfl)); intro gb217 hg w4 hbox hb; have BK217 := Aside0.mk (hbox); have GW217 := zG (w := w) hg; have GE217 := zG (w := w) hg; replace HB := zBs hb; clear hb hbox hg) | ((with_reducible refine gate_dst (N := 3) rfl ?_); (try (refine gate_guard (by rfl) ?_; dsimp only)); refine box_event ?hg (N := 3) ?hd (cs := #[.int .i64 a1_0, .int .i64 a1_1, .slice A1_2 l1_2.length c1_2]) (t := 41) ?hr ?_; (case hd => rfl); (case hg => rfl); (case hr => first | (go_simp; done) | (go_simp; rfl)); intro gb218 hg w5 hbox hb; have BK218 := Aside0.mk (hbox); have GW218 := zG (w := w) hg; have GE218 := zG (w := w) hg; replace HB := zBs hb; have NB217_218 := zN hg (zK BK217); have NB218_217 := zM hg (zK BK217); replace BK217 := zKb BK217 hb; clear hb hbox hg))
 repeat (go_quiet (skip); try go_wp2)
 (try simp only [Act.put, List.setIfInBounds_toArray, List.set_cons_zero, List.set_cons_succ])
 go_cut [26] (fun v26 wc => ∃ (kq : Nat) (x26_2 : Bool), v26 = .bool x26_2 ∧ Aside0 (annuitantlaw36_sameAnswer.j0 kq x26_2 a0_0 a0_1 l0_2 a1_0 a1_1 l1_2 = some r) ∧ Aside0 (kq ≤ k) ∧ Aside0 (wc.heap[gb217]? = some (.cells #[.int .i64 a0_0, .int .i64 a0_1, (.slice A0_2 l0_2.length c0_2)] 41 (0, 0))) ∧ Aside0 (wc.heap[gb218]? = some (.cells #[.int .i64 a1_0, .int .i64 a1_1, (.slice A1_2 l1_2.length c1_2)] 41 (0, 0))) ∧ Aside0 (Below w.heap.size w wc))
 case first =>
  have H := HC3.out; clear HC3
  by_cases c6 : a0_0 = a1_0
  ·
   rw [if_pos c6] at H
   have c6b0 : (a0_0 == a1_0) = true := beq_iff_eq.mpr c6; have c6b1 : (a0_0 != a1_0) = false := bne_eq_false_iff_eq.mpr c6; clear c6
   (first | rw [c6b0] | (simp only [i64_w, i32_w]; rw [c6b0]) | skip)
   by_cases c7 : a0_1 = a1_1
   ·
    rw [if_pos c7] at H
    have c7b0 : (a0_1 == a1_1) = true := beq_iff_eq.mpr c7; have c7b1 : (a0_1 != a1_1) = false := bne_eq_false_iff_eq.mpr c7; clear c7; have H' := Aside0.mk H; clear H; have hnb8 := NB217_218.out; have hnc8 := NB218_217.out; obtain ⟨hcz9_0, hcz9_1, hcz9_2⟩ := zC3 BK217; obtain ⟨hfz9_0, hfz9_1, hfz9_2⟩ := zZ3 BK217; obtain ⟨hcz10_0, hcz10_1, hcz10_2⟩ := zC3 BK218; obtain ⟨hfz10_0, hfz10_1, hfz10_2⟩ := zZ3 BK218
    go_wp2
    repeat (go_quiet (skip); try go_wp2)
    go_meet
    case rel => exact ⟨_, (((l0_2.length : Int) != (l1_2.length : Int))), (by first | rfl | (simp; done) | (simp [*]; done)), H', ⟨by first | omega | exact Nat.le_refl _⟩, ⟨zK BK217⟩, ⟨zK BK218⟩, ⟨zB⟩⟩
   ·
    rw [if_neg c7] at H
    have c7b0 : (a0_1 == a1_1) = false := beq_eq_false_iff_ne.mpr c7; have c7b1 : (a0_1 != a1_1) = true := bne_iff_ne.mpr c7; have H' := Aside0.mk H; clear H; have hnb11 := NB217_218.out; have hnc11 := NB218_217.out; obtain ⟨hcz12_0, hcz12_1, hcz12_2⟩ := zC3 BK217; obtain ⟨hfz12_0, hfz12_1, hfz12_2⟩ := zZ3 BK217; obtain ⟨hcz13_0, hcz13_1, hcz13_2⟩ := zC3 BK218; obtain ⟨hfz13_0, hfz13_1, hfz13_2⟩ := zZ3 BK218
    go_wp2
    repeat (go_quiet (skip); try go_wp2)
    go_meet
    case rel => exact ⟨_, (true), (by first | rfl | (simp; done) | (simp [*]; done)), H', ⟨by first | omega | exact Nat.le_refl _⟩, ⟨zK BK217⟩, ⟨zK BK218⟩, ⟨zB⟩⟩
  ·
   rw [if_neg c6] at H
   have c6b0 : (a0_0 == a1_0) = false := beq_eq_false_iff_ne.mpr c6; have c6b1 : (a0_0 != a1_0) = true := bne_iff_ne.mpr c6
   (first | rw [c6b0] | (simp only [i64_w, i32_w]; rw [c6b0]) | skip)
   have H' := Aside0.mk H; clear H; have hnb14 := NB217_218.out; have hnc14 := NB218_217.out; obtain ⟨hcz15_0, hcz15_1, hcz15_2⟩ := zC3 BK217; obtain ⟨hfz15_0, hfz15_1, hfz15_2⟩ := zZ3 BK217; obtain ⟨hcz16_0, hcz16_1, hcz16_2⟩ := zC3 BK218; obtain ⟨hfz16_0, hfz16_1, hfz16_2⟩ := zZ3 BK218
   go_wp2
   repeat (go_quiet (skip); try go_wp2)
   go_meet
   case rel => exact ⟨_, (true), (by first | rfl | (simp; done) | (simp [*]; done)), H', ⟨by first | omega | exact Nat.le_refl _⟩, ⟨zK BK217⟩, ⟨zK BK218⟩, ⟨zB⟩⟩
 case rest =>
  clear HC3
  try clear c1
  try clear p2
  try clear c3
  try clear c6
  try clear c6b0
  try clear c6b1
  try clear c7
  try clear c7b0
  try clear c7b1
  try clear c8
  try clear c11
  try clear c14
  try clear hcz10_0
  try clear hcz10_1
  try clear hcz10_2
  try clear hcz12_0
  try clear hcz12_1
  try clear hcz12_2
  try clear hcz13_0
  try clear hcz13_1
  try clear hcz13_2
  try clear hcz15_0
  try clear hcz15_1
  try clear hcz15_2
  try clear hcz16_0
  try clear hcz16_1
  try clear hcz16_2
  try clear hcz9_0
  try clear hcz9_1
  try clear hcz9_2
  try clear hfz10_0
  try clear hfz10_1
  try clear hfz10_2
  try clear hfz12_0
  try clear hfz12_1
  try clear hfz12_2
  try clear hfz13_0
  try clear hfz13_1
  try clear hfz13_2
  try clear hfz15_0
  try clear hfz15_1
  try clear hfz15_2
  try clear hfz16_0
  try clear hfz16_1
  try clear hfz16_2
  try clear hfz9_0
  try clear hfz9_1
  try clear hfz9_2
  obtain ⟨kq, x26_2, rfl, HA, HJ2, BK217, BK218, HB⟩ := hcut
  cases kq with
  | zero => exact absurd HA.out (by simp [annuitantlaw36_sameAnswer.j0])
  | succ kj2 =>
   have H := HA.out; clear HA
   simp only [annuitantlaw36_sameAnswer.j0] at H
   by_cases c17 : x26_2 = true
   ·
    subst c17
    have H1 : (some false) = some r := by rw [if_pos rfl] at H; exact H
    clear H; have H := H1; clear H1; obtain rfl := Option.some.inj H
    go_wp2
    repeat (go_quiet (skip); try go_wp2)
    go_ret
    exact ⟨zE, zB⟩
   ·
    replace c17 := Bool.eq_false_iff.mpr c17; subst c17
    have H1 : (annuitantlaw36_sameAnswer.l0 kj2 0 a0_0 a0_1 l0_2 a1_0 a1_1 l1_2) = some r := by rw [if_neg (show ¬ (false = true) by decide)] at H; exact H
    clear H; have H := H1; clear H1; have H' := Aside0.mk H; clear H
    go_wp2
    repeat (go_quiet (skip); try go_wp2)
    go_loopg [5] kj2 (fun kq v5 w' => ∃ (x5_2 : Int), v5 = .int .i64 x5_2 ∧ Aside0 (annuitantlaw36_sameAnswer.l0 kq x5_2 a0_0 a0_1 l0_2 a1_0 a1_1 l1_2 = some r) ∧ Aside0 (kq ≤ kj2) ∧ Aside0 (w'.heap[gb217]? = some (.cells #[.int .i64 a0_0, .int .i64 a0_1, (.slice A0_2 l0_2.length c0_2)] 41 (0, 0))) ∧ Aside0 (w'.heap[gb218]? = some (.cells #[.int .i64 a1_0, .int .i64 a1_1, (.slice A1_2 l1_2.length c1_2)] 41 (0, 0))) ∧ Aside0 (Below w.heap.size w w'))
    case atStart => exact ⟨(0), (by first | rfl | (simp; done) | (simp [*]; done)), H', ⟨Nat.le_refl _⟩, ⟨zK BK217⟩, ⟨zK BK218⟩, ⟨zB⟩⟩
    case round =>
     clear H'
     try clear c1
     try clear p2
     try clear c3
     try clear c6
     try clear c6b0
     try clear c6b1
     try clear c7
     try clear c7b0
     try clear c7b1
     try clear c8
     try clear c11
     try clear c14
     try clear c17
     try clear hcz10_0
     try clear hcz10_1
     try clear hcz10_2
     try clear hcz12_0
     try clear hcz12_1
     try clear hcz12_2
     try clear hcz13_0
     try clear hcz13_1
     try clear hcz13_2
     try clear hcz15_0
     try clear hcz15_1
     try clear hcz15_2
     try clear hcz16_0
     try clear hcz16_1
     try clear hcz16_2
     try clear hcz9_0
     try clear hcz9_1
     try clear hcz9_2
     try clear hfz10_0
     try clear hfz10_1
     try clear hfz10_2
     try clear hfz12_0
     try clear hfz12_1
     try clear hfz12_2
     try clear hfz13_0
     try clear hfz13_1
     try clear hfz13_2
     try clear hfz15_0
     try clear hfz15_1
     try clear hfz15_2
     try clear hfz16_0
     try clear hfz16_1
     try clear hfz16_2
     try clear hfz9_0
     try clear hfz9_1
     try clear hfz9_2
     try clear p2
     obtain ⟨x5_2, rfl, HA, HK2, BK217, BK218, HB⟩ := hrel
     cases gk with
     | zero => exact absurd HA.out (by simp [annuitantlaw36_sameAnswer.l0])
     | succ k2 =>
      have H := HA.out; clear HA
      simp only [annuitantlaw36_sameAnswer.l0] at H
      by_cases c18 : x5_2 < (l0_2.length : Int)
      ·
       rw [if_pos c18] at H
       have c18b0 : decide (x5_2 < (l0_2.length : Int)) = true := decide_eq_true c18; clear c18
       by_cases c19 : 0 ≤ x5_2
       ·
        rw [if_pos c19] at H
        have c19b0 : decide (0 ≤ x5_2) = true := decide_eq_true c19; clear c19
        by_cases c20 : x5_2 < (l1_2.length : Int)
        ·
         rw [if_pos c20] at H
         have c20b0 : decide (x5_2 < (l1_2.length : Int)) = true := decide_eq_true c20; clear c20
         by_cases c21 : (!(((rd_T78 l0_2 x5_2).f0) == ((rd_T78 l1_2 x5_2).f0)) || (!(((rd_T78 l0_2 x5_2).f1) == ((rd_T78 l1_2 x5_2).f1)))) = true
         ·
          rw [if_pos c21] at H
          have c21b0 : (!(((rd_T78 l0_2 x5_2).f0) == ((rd_T78 l1_2 x5_2).f0)) || (!(((rd_T78 l0_2 x5_2).f1) == ((rd_T78 l1_2 x5_2).f1)))) = true := c21; clear c21; obtain rfl := Option.some.inj H; have hnb22 := NB217_218.out; have hnc22 := NB218_217.out; obtain ⟨hcz23_0, hcz23_1, hcz23_2⟩ := zC3 BK217; obtain ⟨hfz23_0, hfz23_1, hfz23_2⟩ := zZ3 BK217; have p219 : 0 ≤ (x5_2 : Int) := zD; have q219 : x5_2 < (l0_2.length : Int) := zD; obtain ⟨ad219, e219, hx219_0, hx219_1⟩ := at_T78 HR0_2.out x5_2 p219 q219
          cases e219
          replace hx219_0 := zL HB hx219_0; replace hx219_1 := zL HB hx219_1; replace p219 := eq_true p219; replace q219 := eq_true q219; obtain ⟨hcz24_0, hcz24_1, hcz24_2⟩ := zC3 BK218; obtain ⟨hfz24_0, hfz24_1, hfz24_2⟩ := zZ3 BK218; have p220 : 0 ≤ (x5_2 : Int) := zD; have q220 : x5_2 < (l1_2.length : Int) := zD; obtain ⟨ad220, e220, hx220_0, hx220_1⟩ := at_T78 HR1_2.out x5_2 p220 q220
          cases e220
          replace hx220_0 := zL HB hx220_0; replace hx220_1 := zL HB hx220_1; replace p220 := eq_true p220; replace q220 := eq_true q220
          go_wp2
          repeat (go_quiet (skip); try go_wp2)
          go_ret
          exact ⟨zE, zB⟩
         ·
          rw [if_neg c21] at H
          have c21b0 : (!(((rd_T78 l0_2 x5_2).f0) == ((rd_T78 l1_2 x5_2).f0)) || (!(((rd_T78 l0_2 x5_2).f1) == ((rd_T78 l1_2 x5_2).f1)))) = false := by simpa using c21
          clear c21; have H' := Aside0.mk H; clear H; have hnb25 := NB217_218.out; have hnc25 := NB218_217.out; obtain ⟨hcz26_0, hcz26_1, hcz26_2⟩ := zC3 BK217; obtain ⟨hfz26_0, hfz26_1, hfz26_2⟩ := zZ3 BK217; have p219 : 0 ≤ (x5_2 : Int) := zD; have q219 : x5_2 < (l0_2.length : Int) := zD; obtain ⟨ad219, e219, hx219_0, hx219_1⟩ := at_T78 HR0_2.out x5_2 p219 q219
          cases e219
          replace hx219_0 := zL HB hx219_0; replace hx219_1 := zL HB hx219_1; replace p219 := eq_true p219; replace q219 := eq_true q219; obtain ⟨hcz27_0, hcz27_1, hcz27_2⟩ := zC3 BK218; obtain ⟨hfz27_0, hfz27_1, hfz27_2⟩ := zZ3 BK218; have p220 : 0 ≤ (x5_2 : Int) := zD; have q220 : x5_2 < (l1_2.length : Int) := zD; obtain ⟨ad220, e220, hx220_0, hx220_1⟩ := at_T78 HR1_2.out x5_2 p220 q220
          cases e220
          replace hx220_0 := zL HB hx220_0; replace hx220_1 := zL HB hx220_1; replace p220 := eq_true p220; replace q220 := eq_true q220
          go_wp2
          repeat (go_quiet (skip); try go_wp2)
          go_roundg k2
          case measure => have := HJ2.out; have := HK2.out; omega
          case rel => exact ⟨(wrap64 (x5_2 + 1)), (by first | rfl | (simp; done) | (simp [*]; done)), H', ⟨by have := HJ2.out; have := HK2.out; omega⟩, ⟨zK BK217⟩, ⟨zK BK218⟩, ⟨zB⟩⟩
        ·
         rw [if_neg c20] at H
         exact absurd H (by simp)
       ·
        rw [if_neg c19] at H
        exact absurd H (by simp)
      ·
       rw [if_neg c18] at H
       have c18b0 : decide (x5_2 < (l0_2.length : Int)) = false := decide_eq_false c18; clear c18; obtain rfl := Option.some.inj H; have hnb28 := NB217_218.out; have hnc28 := NB218_217.out; obtain ⟨hcz29_0, hcz29_1, hcz29_2⟩ := zC3 BK217; obtain ⟨hfz29_0, hfz29_1, hfz29_2⟩ := zZ3 BK217
       go_wp2
       repeat (go_quiet (skip); try go_wp2)
       go_ret
       exact ⟨zE, zB⟩
end Go.Proofs.YtndojpcjhkncgaaGreatDoor.Q
end

section
namespace Go.Proofs.YtndojpcjhkncgaaGreatDoor.Q
open Go.RowKit Go.Proofs.YtndojpcjhkncgaaGreatDoorW.PrintWords Go.Proofs.YtndojpcjhkncgaaGreatDoorW.PrintLast Go.Proofs.YtndojpcjhkncgaaGreatDoorW.PrintMore
attribute [local go_sem] max2_int min2_int max_two min_two max_three min_three max_four min_four   -- for this text's walks alone
set_option linter.unusedVariables false
set_option linter.unusedSimpArgs false
def annuitantlaw36_old.l0 : Nat → Int → Int → Int → List (S49) → Int → Int → List (S78) → Option (Int × Int × (List (S78)))
 | 0, _, _, _, _, _, _, _ => none
 | k + 1, x4, x181000, x181001, x181002, x183000, x183001, x183002 => if x4 < (x181002.length : Int) then (if 0 ≤ x4 then (if x183002.length < 8796093022208 then (annuitantlaw36_old.l0 k (wrap64 (x4 + 1)) x181000 x181001 x181002 x183000 x183001 (x183002 ++ [(⟨(rd_T49 x181002 x4).f0, (rd_T49 x181002 x4).f1⟩ : S78)])) else (none)) else (none)) else (some (x183000, x183001, x183002))
def annuitantlaw36_old.f (k : Nat) (a0_0 : Int) (a0_1 : Int) (l0_2 : List (S49)) : Option (Int × Int × (List (S78))) := annuitantlaw36_old.l0 k 0 a0_0 a0_1 l0_2 a0_0 a0_1 ([] : List (S78))
def annuitantlaw36_old.T5 : Bool × List (List Nat × List Nat) := (true, [([], []), ([0], [0]), ([], []), ([2], [2]), ([], []), ([3, 4], [3, 4]), ([5], [5]), ([6], [6]), ([], []), ([8], [8]), ([], []), ([9, 10], [9, 10]), ([11], [11]), ([12], [12]), ([7, 13], [7, 13]), ([14], [14]), ([1, 15], [1, 15]), ([0, 1, 2, 3, 4, 5, 6, 7, 8, 9, 10, 11, 12, 13, 14, 15, 16], []), ([17, 16, 16, 0, 1, 2, 3, 4, 5, 6, 7, 8, 9, 10, 11, 12, 13, 14, 15, 16], [16, 17])])
def annuitantlaw36_old.B5 : List Nat := [0, 1, 0, 4, 0, 28, 60, 124, 0, 256, 0, 1792, 3840, 7936, 16380, 32764, 65535, 131071, 262143]
theorem annuitantlaw36_old.tab5 : rtab .any (opsOf Tryz.f16 5) = annuitantlaw36_old.T5 := by kernel_rfl
theorem annuitantlaw36_old.bits5 : waitsOk annuitantlaw36_old.T5.2 annuitantlaw36_old.B5 = true := by kernel_rfl
abbrev zayy := true
abbrev zayn := false
abbrev zayz0 : Array Bool := #[zayn,zayn,zayn,zayn,zayn,zayn,zayn,zayn,zayn,zayn,zayn,zayn,zayn,zayn,zayn,zayn,zayn,zayn,zayn]
abbrev zayz1 : Array Bool := #[zayy,zayn,zayn,zayn,zayn,zayn,zayn,zayn,zayn,zayn,zayn,zayn,zayn,zayn,zayn,zayn,zayn,zayn,zayn]
abbrev zayz2 : Array Bool := #[zayy,zayn,zayy,zayn,zayn,zayn,zayn,zayn,zayn,zayn,zayn,zayn,zayn,zayn,zayn,zayn,zayn,zayn,zayn]
abbrev zayz3 : Array Bool := #[zayy,zayn,zayy,zayn,zayy,zayn,zayn,zayn,zayn,zayn,zayn,zayn,zayn,zayn,zayn,zayn,zayn,zayn,zayn]
abbrev zayz4 : Array Bool := #[zayy,zayn,zayy,zayn,zayy,zayn,zayn,zayn,zayy,zayn,zayn,zayn,zayn,zayn,zayn,zayn,zayn,zayn,zayn]
abbrev zayz5 : Array Bool := #[zayy,zayn,zayy,zayn,zayy,zayn,zayn,zayn,zayy,zayn,zayy,zayn,zayn,zayn,zayn,zayn,zayn,zayn,zayn]
abbrev zayz6 : Array Bool := #[zayy,zayy,zayy,zayn,zayy,zayn,zayn,zayn,zayy,zayn,zayy,zayn,zayn,zayn,zayn,zayn,zayn,zayn,zayn]
abbrev zayz7 : Array Bool := #[zayy,zayy,zayy,zayy,zayy,zayn,zayn,zayn,zayy,zayn,zayy,zayn,zayn,zayn,zayn,zayn,zayn,zayn,zayn]
abbrev zayz8 : Array Bool := #[zayy,zayy,zayy,zayy,zayy,zayy,zayn,zayn,zayy,zayn,zayy,zayn,zayn,zayn,zayn,zayn,zayn,zayn,zayn]
abbrev zayz9 : Array Bool := #[zayy,zayy,zayy,zayy,zayy,zayy,zayy,zayn,zayy,zayn,zayy,zayn,zayn,zayn,zayn,zayn,zayn,zayn,zayn]
abbrev zayz10 : Array Bool := #[zayy,zayy,zayy,zayy,zayy,zayy,zayy,zayy,zayy,zayn,zayy,zayn,zayn,zayn,zayn,zayn,zayn,zayn,zayn]
abbrev zayz11 : Array Bool := #[zayy,zayy,zayy,zayy,zayy,zayy,zayy,zayy,zayy,zayy,zayy,zayn,zayn,zayn,zayn,zayn,zayn,zayn,zayn]
abbrev zayz12 : Array Bool := #[zayy,zayy,zayy,zayy,zayy,zayy,zayy,zayy,zayy,zayy,zayy,zayy,zayn,zayn,zayn,zayn,zayn,zayn,zayn]
abbrev zayz13 : Array Bool := #[zayy,zayy,zayy,zayy,zayy,zayy,zayy,zayy,zayy,zayy,zayy,zayy,zayy,zayn,zayn,zayn,zayn,zayn,zayn]
abbrev zayz14 : Array Bool := #[zayy,zayy,zayy,zayy,zayy,zayy,zayy,zayy,zayy,zayy,zayy,zayy,zayy,zayy,zayn,zayn,zayn,zayn,zayn]
abbrev zayz15 : Array Bool := #[zayy,zayy,zayy,zayy,zayy,zayy,zayy,zayy,zayy,zayy,zayy,zayy,zayy,zayy,zayy,zayn,zayn,zayn,zayn]
abbrev zayz16 : Array Bool := #[zayy,zayy,zayy,zayy,zayy,zayy,zayy,zayy,zayy,zayy,zayy,zayy,zayy,zayy,zayy,zayy,zayn,zayn,zayn]
abbrev zayz17 : Array Bool := #[zayy,zayy,zayy,zayy,zayy,zayy,zayy,zayy,zayy,zayy,zayy,zayy,zayy,zayy,zayy,zayy,zayy,zayn,zayn]
abbrev zayz18 : Array Bool := #[zayy,zayy,zayy,zayy,zayy,zayy,zayy,zayy,zayy,zayy,zayy,zayy,zayy,zayy,zayy,zayy,zayy,zayy,zayn]
abbrev zayz19 : Array Bool := #[zayy,zayy,zayy,zayy,zayy,zayy,zayy,zayy,zayy,zayy,zayy,zayy,zayy,zayy,zayy,zayy,zayy,zayy,zayy]
theorem zayq {α β γ : Type _} {A : α → β → γ → Prop} : ∀ a b c, A a b c → A a b c := fun _ _ _ h => h
theorem zayp {P : Program} {md : Region.Mode} {ops : Array Oper} {Q : Exit → Act → World → Prop} {S : World → Prop} {ds : List Nat} {oi : Oper} {fuel : Nat} {l : Array Bool} {a : Act} {w : World} {v : Value} {a' : Act} (i : Nat) (N : Option Tmp) (l' : Array Bool) (hi : ops[i]? = some oi) (hN : oi.dst = N) (hc : anyB md ops l l' i = true)
    (hQ : ∀ c a w, Q (.panic c) (a.put oi.dst v) w → Q (.panic c) a w) (hy : Yields P ops oi v a) (ha : a.put N v = a')
    (h : wpAnyLast P md ops Q S ds fuel l' a' w) : wpAnyLast P md ops Q S ds (fuel + 1) l a w := pure_ (i := i) (N := N) (v := v) (a' := a') l' hi hN hc hQ hy ha h
theorem zay1 {α : Type _} {l : List α} {i : Nat} {a : α} : l.toArray.setIfInBounds i a = (l.set i a).toArray := by simp
theorem zay2 {α : Type _} {x : α} {xs : List α} {a : α} : (x :: xs).set 0 a = a :: xs := rfl
theorem zay3 {α : Type _} {x : α} {xs : List α} {n : Nat} {a : α} : (x :: xs).set (n + 1) a = x :: xs.set n a := rfl
set_option maxHeartbeats 8000000 in
set_option maxRecDepth 100000 in
theorem annuitantlaw36_old.calls (k : Nat) (a0_0 : Int) (a0_1 : Int) (A0_2 : Option Addr) (c0_2 : Nat) (l0_2 : List (S49)) (r1 : Int) (r2 : Int) (r3 : List (S78)) (w : World) (hr0_2 : Kd.C k49 w A0_2 l0_2.length l0_2) (hc0_2 : l0_2.length ≤ c0_2) (h : annuitantlaw36_old.f k a0_0 a0_1 l0_2 = some (r1, r2, r3)) :
  Calls Tryz.prog 16 #[.agg #[.int .i64 a0_0, .int .i64 a0_1, .slice A0_2 l0_2.length c0_2]] w fun e w' => ∃ v2_ : Value, e = .returned (.agg #[.int .i64 r1, .int .i64 r2, v2_]) ∧ Kd.R k78 78 w' w.heap.size (fun _ => True) v2_ r3 ∧ Below w.heap.size w w' := by
 have hu30 := Tryz.underlying30; have hu41 := Tryz.underlying41; have hu78 := Tryz.underlying78; have HR0_2 := Aside0.mk hr0_2; have HC0_2 := Aside0.mk hc0_2; clear hr0_2 hc0_2; have HB := Aside0.mk (Below.refl w.heap.size w); have H : (annuitantlaw36_old.l0 k 0 a0_0 a0_1 l0_2 a0_0 a0_1 ([] : List (S78))) = some (r1, r2, r3) := h; clear h; have H' := Aside0.mk H; clear H
 go_enter Tryz.func16, Tryz.ntmps16
 go_wp2_with (first | ((with_reducible refine gate_dst (N := 1) rfl ?_); refine box_event ?hg (N := 1) ?hd (cs := #[.int .i64 a0_0, .int .i64 a0_1, .slice A0_2 l0_2.length c0_2]) (t := 30) ?hr ?_; (case hd => rfl); (case hg => rfl); (case hr => first | (go_simp; done) | (go_simp; rfl)); intro gb180 hg w2 hbox hb; have BK180 := Aside0.mk (hbox); have GW180 := zG (w := w) hg; have GE180 := zG (w := w) hg; replace HB := zBs hb; clear hb hbox hg) | ((with_reducible refine gate_dst (N := 2) rfl ?_); refine box_event ?hg (N := 2) ?hd (cs := #[.int .i64 0, .int .i64 0, .slice none 0 0]) (t := 41) ?hr ?_; (case hd => rfl); (case hg => rfl); (case hr => first | (go_simp; done) | (go_simp; rfl)); intro gb181 hg w3 hbox hb; have BK181 := Aside0.mk (hbox); have GW181 := zG (w := w) hg; have GE181 := zG (w := w) hg; replace HB := zBs hb; have NB180_181 := zN hg (zK BK180); have NB181_180 := zM hg (zK BK180); replace BK180 := zKb BK180 hb; clear hb hbox hg; have hnb4 := NB180_181.out; have hnc4 := NB181_180.out; obtain ⟨hcz5_0, hcz5_1, hcz5_2⟩ := zC3 BK180; obtain ⟨hfz5_0, hfz5_1, hfz5_2⟩ := zZ3 BK180) | ((with_reducible refine gate_dst (N := 3) rfl ?_); refine box_event ?hg (N := 3) ?hd (cs := #[.int .i64 0, .int .i64 0, .slice none 0 0]) (t := 41) ?hr ?_; (case hd => rfl); (case hg => rfl); (case hr => first | (go_simp; done) | (go_simp; rfl)); intro gb182 hg w6 hbox hb; have BK182 := Aside0.mk (hbox); have GW182 := zG (w := w) hg; have GE182 := zG (w := w) hg; replace HB := zBs hb; have NB180_182 := zN hg (zK BK180); have NB182_180 := zM hg (zK BK180); replace BK180 := zKb BK180 hb; have NB181_182 := zN hg (zK BK181); have NB182_181 := zM hg (zK BK181); replace BK181 := zKb BK181 hb; clear hb hbox hg; have hnb7 := NB182_180.out; have hnc7 := NB180_182.out; have hnb8 := NB182_181.out; have hnc8 := NB181_182.out; obtain ⟨hcz9_0, hcz9_1, hcz9_2⟩ := zC3 BK182; obtain ⟨hfz9_0, hfz9_1, hfz9_2⟩ := zZ3 BK182))
 go_loopg [4] k (fun kq v4 w' => ∃ (x4_1 : Int) (x183002_1 : List (S78)) (u183002 : Value), v4 = .int .i64 x4_1 ∧ Aside0 (annuitantlaw36_old.l0 kq x4_1 a0_0 a0_1 l0_2 a0_0 a0_1 x183002_1 = some (r1, r2, r3)) ∧ Aside0 (kq ≤ k) ∧ Aside0 (Kd.R k78 78 w' w.heap.size (fun _ => True) u183002 x183002_1) ∧ Aside0 (w'.heap[gb180]? = some (.cells #[.int .i64 a0_0, .int .i64 a0_1, (.slice A0_2 l0_2.length c0_2)] 30 (0, 0))) ∧ Aside0 (w'.heap[gb181]? = some (.cells #[.int .i64 0, .int .i64 0, (.slice none 0 0)] 41 (0, 0))) ∧ Aside0 (w'.heap[gb182]? = some (.cells #[.int .i64 a0_0, .int .i64 a0_1, u183002] 41 (0, 0))) ∧ Aside0 (Below w.heap.size w w'))
 case atStart => exact ⟨(0), (([] : List (S78))), (.slice none 0 0), (by first | rfl | (simp; done) | (simp [*]; done)), H', ⟨Nat.le_refl _⟩, ⟨by first | exact Kd.R_nil _ _ _ _ _ | exact Kd.N_nil _ _ _ _ _ | exact Kd.V_nil _ _ _ _ _ | exact Kd.Q_nil _ _ _ _ _ | exact Kd.S_nil _ _ _ _ _⟩, ⟨zF BK180⟩, ⟨zF BK181⟩, ⟨by (with_reducible repeat (first | apply blk_drewN | apply blk_drew | apply blk_alloc)); refine blk_put (cs := #[.int .i64 a0_0, .int .i64 a0_1, .slice none 0 0]) ?_ 2 _ rfl; (with_reducible repeat (first | apply blk_drewN | apply blk_drew | apply blk_alloc)); refine blk_put (cs := #[.int .i64 a0_0, .int .i64 0, .slice none 0 0]) ?_ 1 _ rfl; (with_reducible repeat (first | apply blk_drewN | apply blk_drew | apply blk_alloc)); refine blk_put (cs := #[.int .i64 0, .int .i64 0, .slice none 0 0]) ?_ 0 _ rfl; (with_reducible repeat (first | apply blk_drewN | apply blk_drew | apply blk_alloc)); exact BK182.out⟩, ⟨zB⟩⟩
 case round =>
  clear H'
  try clear c1
  try clear p2
  try clear c4
  try clear c7
  try clear c8
  try clear hcz5_0
  try clear hcz5_1
  try clear hcz5_2
  try clear hcz9_0
  try clear hcz9_1
  try clear hcz9_2
  try clear hfz5_0
  try clear hfz5_1
  try clear hfz5_2
  try clear hfz9_0
  try clear hfz9_1
  try clear hfz9_2
  obtain ⟨x4_1, x183002_1, u183002, rfl, HA, HK1, HO_183002, BK180, BK181, BK182, HB⟩ := hrel
  cases gk with
  | zero => exact absurd HA.out (by simp [annuitantlaw36_old.l0])
  | succ k1 =>
   have H := HA.out; clear HA
   simp only [annuitantlaw36_old.l0] at H
   by_cases c10 : x4_1 < (l0_2.length : Int)
   ·
    rw [if_pos c10] at H
    have c10b0 : decide (x4_1 < (l0_2.length : Int)) = true := decide_eq_true c10; clear c10
    by_cases c11 : 0 ≤ x4_1
    ·
     rw [if_pos c11] at H
     have c11b0 : decide (0 ≤ x4_1) = true := decide_eq_true c11; clear c11
     by_cases c12 : x183002_1.length < 8796093022208
     ·
      rw [if_pos c12] at H
      have LMc12 := Aside0.mk c12; clear c12
      obtain ⟨y185, hy185⟩ : ∃ y_ : List (S78), y_ = (x183002_1 ++ [(⟨(rd_T49 l0_2 x4_1).f0, (rd_T49 l0_2 x4_1).f1⟩ : S78)]) := ⟨_, rfl⟩
      replace H : (annuitantlaw36_old.l0 k1 (wrap64 (x4_1 + 1)) a0_0 a0_1 l0_2 a0_0 a0_1 y185) = some (r1, r2, r3) := by first | (rw [hy185]; with_reducible exact H) | (have H2_ := (Option.bind_some _ _).symm.trans H; rw [hy185]; with_reducible exact H2_) | (have H2_ := (Option.bind_some _ _).symm.trans H; with_reducible exact H2_) | with_reducible exact H | (rw [hy185]; exact H) | exact H
      have Ny185 := Aside0.mk hy185; clear hy185; have H' := Aside0.mk H; clear H; have hnb13 := NB180_181.out; have hnc13 := NB181_180.out; have hnb14 := NB180_182.out; have hnc14 := NB182_180.out; obtain ⟨hcz15_0, hcz15_1, hcz15_2⟩ := zC3 BK180; obtain ⟨hfz15_0, hfz15_1, hfz15_2⟩ := zZ3 BK180
      try go_wp2
      replace HO_183002 := Aside0.mk (Kd.R_drew HO_183002.out); replace BK180 := Aside0.mk (blk_drew BK180.out); replace BK181 := Aside0.mk (blk_drew BK181.out); replace BK182 := Aside0.mk (blk_drew BK182.out); replace HB := Aside0.mk (below_drew1 HB.out); have p183 : 0 ≤ (x4_1 : Int) := zD; have q183 : x4_1 < (l0_2.length : Int) := zD; obtain ⟨ad183, e183, hx183_0, hx183_1⟩ := at_T49 HR0_2.out x4_1 p183 q183; have hw183_1 := hx183_1; have hw183_0 := hx183_0
      cases e183
      replace hx183_0 := zL HB hx183_0; replace hx183_1 := zL HB hx183_1; replace p183 := eq_true p183; replace q183 := eq_true q183; have p184 : 0 ≤ (x4_1 : Int) := zD; have q184 : x4_1 < (l0_2.length : Int) := zD; obtain ⟨ad184, e184, hx184_0, hx184_1⟩ := at_T49 HR0_2.out x4_1 p184 q184; have hw184_1 := hx184_1; have hw184_0 := hx184_0; obtain rfl : ad183 = ad184 := (by injection e184); replace hx184_0 := zL HB hx184_0; replace hx184_1 := zL HB hx184_1; replace p184 := eq_true p184; replace q184 := eq_true q184
      refine start_ (n := 19) (S := fun w' => w'.cell? ⟨gb182, 0, none⟩ = some (.int .i64 a0_0) ∧ w'.cell? ⟨gb182, 1, none⟩ = some (.int .i64 a0_1) ∧ w'.cell? ⟨gb182, 2, none⟩ = some (u183002) ∧ w'.cell? ⟨gb180, 0, none⟩ = some (.int .i64 a0_0) ∧ w'.cell? ⟨gb180, 1, none⟩ = some (.int .i64 a0_1) ∧ w'.cell? ⟨gb180, 2, none⟩ = some (.slice (some ad183) l0_2.length c0_2) ∧ w'.cell? (ad183.add ((x4_1).toNat * 2)) = some (.int .i64 ((rd_T49 l0_2 x4_1).f0)) ∧ w'.cell? ⟨(ad183.add ((x4_1).toNat * 2)).block, (ad183.add ((x4_1).toNat * 2)).off + 1, none⟩ = some (.int .i64 ((rd_T49 l0_2 x4_1).f1)) ∧ w'.cell? (ad183.add ((x4_1).toNat * 2)) = some (.int .i64 ((rd_T49 l0_2 x4_1).f0)) ∧ w'.cell? ⟨(ad183.add ((x4_1).toNat * 2)).block, (ad183.add ((x4_1).toNat * 2)).off + 1, none⟩ = some (.int .i64 ((rd_T49 l0_2 x4_1).f1))) (ds := [18]) zayz0 (by kernel_rfl) rfl rfl ⟨(blk_cell BK182.out 0).trans rfl, (blk_cell BK182.out 1).trans rfl, (blk_cell BK182.out 2).trans rfl, (blk_cell BK180.out 0).trans rfl, (blk_cell BK180.out 1).trans rfl, (blk_cell BK180.out 2).trans rfl, (zL HB hw183_0), (zL HB hw183_1), (zL HB hw184_0), (zL HB hw184_1)⟩ (fun hHeld => ?_); refine with_tabW annuitantlaw36_old.tab5 annuitantlaw36_old.bits5 (fun HT_ HW_ => ?_)
      generalize wr.drew = w16 at HO_183002 BK180 BK181 BK182 HB hx183_0 hx183_1 hx184_0 hx184_1 hHeld ⊢
      refine zayp 0 (some 17) zayz1 rfl rfl (any_of HT_.out (by kernel_rfl)) zayq (Or.inl ⟨by rfl, by intro w'; go_simp; with_reducible rfl⟩) (by simp only [Act.put, zay1, zay2, zay3, i64_w, i32_w]; rfl) ?_
      refine zayp 2 (some 19) zayz2 rfl rfl (any_of HT_.out (by kernel_rfl)) zayq (Or.inl ⟨by rfl, by intro w'; go_simp; with_reducible rfl⟩) (by simp only [Act.put, zay1, zay2, zay3, i64_w, i32_w]; rfl) ?_
      refine zayp 4 (some 21) zayz3 rfl rfl (any_of HT_.out (by kernel_rfl)) zayq (Or.inl ⟨by rfl, by intro w'; go_simp; with_reducible rfl⟩) (by simp only [Act.put, zay1, zay2, zay3, i64_w, i32_w]; rfl) ?_
      refine zayp 8 (some 25) zayz4 rfl rfl (any_of HT_.out (by kernel_rfl)) zayq (Or.inl ⟨by rfl, by intro w'; go_simp; with_reducible rfl⟩) (by simp only [Act.put, zay1, zay2, zay3, i64_w, i32_w]; rfl) ?_
      refine zayp 10 (some 27) zayz5 rfl rfl (any_of HT_.out (by kernel_rfl)) zayq (Or.inl ⟨by rfl, by intro w'; go_simp; with_reducible rfl⟩) (by simp only [Act.put, zay1, zay2, zay3, i64_w, i32_w]; rfl) ?_
      refine take_ (i := 1) (N := some 18) (v := ?_) (a' := ?_) zayz6 rfl rfl (take_ofW HT_.out HW_.out (by kernel_rfl)) (fun _ _ _ h => h) (Or.inl ⟨by rfl, ?_⟩) hHeld ?_ ?_
      rotate_left
      ·
       rintro w' ⟨s0, s1, s2, s3, s4, s5, s6, s7, s8, s9⟩
       go_simp
       with_reducible rfl
      rotate_left
      · simp only [Act.put, zay1, zay2, zay3, i64_w, i32_w]; rfl
      refine take_ (i := 3) (N := some 20) (v := ?_) (a' := ?_) zayz7 rfl rfl (take_ofW HT_.out HW_.out (by kernel_rfl)) (fun _ _ _ h => h) (Or.inl ⟨by rfl, ?_⟩) hHeld ?_ ?_
      rotate_left
      ·
       rintro w' ⟨s0, s1, s2, s3, s4, s5, s6, s7, s8, s9⟩
       go_simp
       with_reducible rfl
      rotate_left
      · simp only [Act.put, zay1, zay2, zay3, i64_w, i32_w]; rfl
      refine zayp 5 (some 22) zayz8 rfl rfl (any_of HT_.out (by kernel_rfl)) zayq (Or.inl ⟨by rfl, by intro w'; go_simp; with_reducible rfl⟩) (by simp only [Act.put, zay1, zay2, zay3, i64_w, i32_w]; rfl) ?_
      refine zayp 6 (some 23) zayz9 rfl rfl (any_of HT_.out (by kernel_rfl)) zayq (Or.inl ⟨by rfl, by intro w'; go_simp; with_reducible rfl⟩) (by simp only [Act.put, zay1, zay2, zay3, i64_w, i32_w]; rfl) ?_
      refine take_ (i := 7) (N := some 24) (v := ?_) (a' := ?_) zayz10 rfl rfl (take_ofW HT_.out HW_.out (by kernel_rfl)) (fun _ _ _ h => h) (Or.inl ⟨by rfl, ?_⟩) hHeld ?_ ?_
      rotate_left
      ·
       rintro w' ⟨s0, s1, s2, s3, s4, s5, s6, s7, s8, s9⟩
       go_simp
       with_reducible rfl
      rotate_left
      · simp only [Act.put, zay1, zay2, zay3, i64_w, i32_w]; rfl
      refine take_ (i := 9) (N := some 26) (v := ?_) (a' := ?_) zayz11 rfl rfl (take_ofW HT_.out HW_.out (by kernel_rfl)) (fun _ _ _ h => h) (Or.inl ⟨by rfl, ?_⟩) hHeld ?_ ?_
      rotate_left
      ·
       rintro w' ⟨s0, s1, s2, s3, s4, s5, s6, s7, s8, s9⟩
       go_simp
       with_reducible rfl
      rotate_left
      · simp only [Act.put, zay1, zay2, zay3, i64_w, i32_w]; rfl
      refine zayp 11 (some 28) zayz12 rfl rfl (any_of HT_.out (by kernel_rfl)) zayq (Or.inl ⟨by rfl, by intro w'; go_simp; with_reducible rfl⟩) (by simp only [Act.put, zay1, zay2, zay3, i64_w, i32_w]; rfl) ?_
      refine zayp 12 (some 29) zayz13 rfl rfl (any_of HT_.out (by kernel_rfl)) zayq (Or.inl ⟨by rfl, by intro w'; go_simp; with_reducible rfl⟩) (by simp only [Act.put, zay1, zay2, zay3, i64_w, i32_w]; rfl) ?_
      refine take_ (i := 13) (N := some 30) (v := ?_) (a' := ?_) zayz14 rfl rfl (take_ofW HT_.out HW_.out (by kernel_rfl)) (fun _ _ _ h => h) (Or.inl ⟨by rfl, ?_⟩) hHeld ?_ ?_
      rotate_left
      ·
       rintro w' ⟨s0, s1, s2, s3, s4, s5, s6, s7, s8, s9⟩
       go_simp
       with_reducible rfl
      rotate_left
      · simp only [Act.put, zay1, zay2, zay3, i64_w, i32_w]; rfl
      refine zayp 14 (some 31) zayz15 rfl rfl (any_of HT_.out (by kernel_rfl)) zayq (Or.inl ⟨by rfl, by intro w'; go_simp; with_reducible rfl⟩) (by simp only [Act.put, zay1, zay2, zay3, i64_w, i32_w]; rfl) ?_
      refine one_ (i := 15) (N := some 32) zayz16 rfl rfl (one_of HT_.out (by kernel_rfl)) (by decide) (fun K hK => ?_)
      refine value_ (w1 := ?_) (v := ?_) (by rfl) rfl ?_ ?_
      rotate_left 2
      ·
       go_simp
       constructor
       · rfl
       · rfl
      refine hK.out _ _ ⟨(blk_cell (blk_alloc BK182.out _) 0).trans rfl, (blk_cell (blk_alloc BK182.out _) 1).trans rfl, (blk_cell (blk_alloc BK182.out _) 2).trans rfl, (blk_cell (blk_alloc BK180.out _) 0).trans rfl, (blk_cell (blk_alloc BK180.out _) 1).trans rfl, (blk_cell (blk_alloc BK180.out _) 2).trans rfl, (World.cell?_alloc_lt _ _ _ (World.block_lt_of_cell? _ _ ((zL HB hw183_0)))).trans ((zL HB hw183_0)), (World.cell?_alloc_lt _ _ _ (World.block_lt_of_cell? _ _ ((zL HB hw183_1)))).trans ((zL HB hw183_1)), (World.cell?_alloc_lt _ _ _ (World.block_lt_of_cell? _ _ ((zL HB hw184_0)))).trans ((zL HB hw184_0)), (World.cell?_alloc_lt _ _ _ (World.block_lt_of_cell? _ _ ((zL HB hw184_1)))).trans ((zL HB hw184_1))⟩ (fun hHeld => ?_)
      clear hK K
      refine norm_ (a' := ?_) ?_ ?_
      rotate_left
      ·
       show Act.put _ (some 32) _ = _
       simp only [Act.put, zay1, zay2, zay3, i64_w, i32_w]
       rfl
      refine one_ (i := 16) (N := some 33) zayz17 rfl rfl (one_of HT_.out (by kernel_rfl)) (by decide) (fun K hK => ?_)
      refine Kd.R_append_step k78 (w0 := w) w.heap.size (by rfl) (.tmp 18) (.tmp 32) 39 78 (.agg #[(.int .i64 0), (.int .i64 0)]) 16 rfl Tryz.underlying39 info78 rfl (by decide) (by omega) u183002 x183002_1 (⟨(rd_T49 l0_2 x4_1).f0, (rd_T49 l0_2 x4_1).f1⟩ : S78) [.int .i64 ((rd_T49 l0_2 x4_1).f0), .int .i64 ((rd_T49 l0_2 x4_1).f1)] (fun _ => True) (fun _ => False) rfl rfl ?aP (fun _ hk => hk.elim) ?aF ?aO ?aB ?aS ?aL ?_
      (case aP => exact k78_mkM _ _ _ (⟨(rd_T49 l0_2 x4_1).f0, (rd_T49 l0_2 x4_1).f1⟩ : S78))
      (case aB => exact zB)
      (case aF => exact (fun _ _ => trivial))
      (case aO => exact (zR HO_183002))
      (case aS => exact (below_size zB))
      (case aL => have := LMc12.out; omega)
      intro v186 w17 ho hb hg hat
      rw [← Ny185.out] at ho
      have n0_ := Aside0.mk (blk_grown (g := gb180) (o := .cells #[.int .i64 a0_0, .int .i64 a0_1, .slice (some ad183) l0_2.length c0_2] 30 (0, 0)) (zK BK180) hg (Kd.R_ne HO_183002.out BK180.out (by decide)))
      have n1_ := Aside0.mk (blk_grown (g := gb181) (o := .cells #[.int .i64 0, .int .i64 0, .slice none 0 0] 41 (0, 0)) (zK BK181) hg (Kd.R_ne HO_183002.out BK181.out (by decide)))
      have n2_ := Aside0.mk (blk_grown (g := gb182) (o := .cells #[.int .i64 a0_0, .int .i64 a0_1, u183002] 41 (0, 0)) (zK BK182) hg (Kd.R_ne HO_183002.out BK182.out (by decide)))
      have n3_ := Aside0.mk (hb); have n4_ := Aside0.mk (ho); clear BK180; clear BK181; clear BK182; clear HB; clear HO_183002; have BK180 := n0_; have BK181 := n1_; have BK182 := n2_; have HB := n3_; have HO187 := n4_; clear n0_ n1_ n2_ n3_ n4_; clear ho hb hg hat; obtain ⟨Ao18, co18, eo18⟩ := Kd.R_slice HO187.out
      (first | subst eo18 | (injection eo18 with f1_ f2_ f3_; have f4_ := f1_.symm; have f5_ := f3_.symm; clear f1_ f2_ f3_; subst f4_; subst f5_))
      refine hK.out _ _ ⟨(blk_cell BK182.out 0).trans rfl, (blk_cell BK182.out 1).trans rfl, (blk_cell BK182.out 2).trans rfl, (blk_cell BK180.out 0).trans rfl, (blk_cell BK180.out 1).trans rfl, (blk_cell BK180.out 2).trans rfl, (zL HB hw183_0), (zL HB hw183_1), (zL HB hw184_0), (zL HB hw184_1)⟩ (fun hHeld => ?_)
      clear hK K
      refine norm_ (a' := ?_) ?_ ?_
      rotate_left
      ·
       show Act.put _ (some 33) _ = _
       simp only [Act.put, zay1, zay2, zay3, i64_w, i32_w]
       rfl
      refine zayp 17 (some 34) zayz18 rfl rfl (any_of HT_.out (by kernel_rfl)) zayq (Or.inl ⟨by rfl, by intro w'; go_simp; with_reducible rfl⟩) (by simp only [Act.put, zay1, zay2, zay3, i64_w, i32_w]; rfl) ?_
      refine last_ (i := 18) (N := none) zayz19 rfl rfl (one_of HT_.out (by kernel_rfl)) (by decide) (fun K hK => ?_)
      have hs19 : w17.cell? ⟨gb182, 2, none⟩ = some (u183002) := (blk_cell BK182.out 2).trans rfl; have hfs19 := blk_frozen BK182.out 2; have hns19_0 := NB180_182.out; have hns19_1 := NB181_182.out; have hms19_0 := NB182_180.out; have hms19_1 := NB182_181.out
      refine skip_ (w1 := ?_) (by rfl) rfl ?_ ?_
      rotate_left
      · go_simp; rfl
      refine hK.out _ _ ?_
      clear hK K
      refine done_ (done_of HT_.out (by kernel_rfl)) ?_
      try go_wp2
      go_roundg k1
      case measure => have := HK1.out; omega
      case rel => exact ⟨(wrap64 (x4_1 + 1)), (y185), (.slice Ao18 y185.length co18), (by first | rfl | (simp; done) | (simp [*]; done)), H', ⟨by have := HK1.out; omega⟩, ⟨by (with_reducible repeat (first | apply Kd.R_alloc | apply Kd.R_drewN | apply Kd.R_drew)); exact Kd.R_mono (Kd.R_far (p := ⟨gb182, 2, none⟩) (Kd.R_types HO187.out BK182.out (by decide)) (fun _ hk => hk.2) (.slice Ao18 y185.length co18)) (fun _ hk => trivial)⟩, ⟨zF BK180⟩, ⟨zF BK181⟩, ⟨by (with_reducible repeat (first | apply blk_drewN | apply blk_drew | apply blk_alloc)); refine blk_put (cs := #[.int .i64 a0_0, .int .i64 a0_1, u183002]) ?_ 2 _ rfl; (with_reducible repeat (first | apply blk_drewN | apply blk_drew | apply blk_alloc)); exact BK182.out⟩, ⟨zB⟩⟩
     ·
      rw [if_neg c12] at H
      exact absurd H (by simp)
    ·
     rw [if_neg c11] at H
     exact absurd H (by simp)
   ·
    rw [if_neg c10] at H
    have c10b0 : decide (x4_1 < (l0_2.length : Int)) = false := decide_eq_false c10; clear c10
    simp only [Option.some.injEq, Prod.mk.injEq] at H
    obtain ⟨rfl, rfl, rfl⟩ := H; have hnb20 := NB180_181.out; have hnc20 := NB181_180.out; have hnb21 := NB180_182.out; have hnc21 := NB182_180.out; obtain ⟨hcz22_0, hcz22_1, hcz22_2⟩ := zC3 BK180; obtain ⟨hfz22_0, hfz22_1, hfz22_2⟩ := zZ3 BK180; have hnb23 := NB182_181.out; have hnc23 := NB181_182.out; obtain ⟨hcz24_0, hcz24_1, hcz24_2⟩ := zC3 BK182; obtain ⟨hfz24_0, hfz24_1, hfz24_2⟩ := zZ3 BK182; obtain ⟨hcz25_0, hcz25_1, hcz25_2⟩ := zC3 BK181; obtain ⟨hfz25_0, hfz25_1, hfz25_2⟩ := zZ3 BK181; obtain ⟨Ao26, co26, eo26⟩ := Kd.R_slice HO_183002.out; subst eo26
    go_wp2
    refine bodyPost_ret (results_cell_row rfl _ _ gb181 41 #[.int .i64 a0_0, .int .i64 a0_1, .slice Ao26 x183002_1.length co26] (0, 0) _ rfl (by (with_reducible repeat (first | apply blk_drewN | apply blk_drew | apply blk_alloc)); refine blk_put (cs := #[.int .i64 a0_0, .int .i64 a0_1, .slice none 0 0]) ?_ 2 _ rfl; (with_reducible repeat (first | apply blk_drewN | apply blk_drew | apply blk_alloc)); refine blk_put (cs := #[.int .i64 a0_0, .int .i64 0, .slice none 0 0]) ?_ 1 _ rfl; (with_reducible repeat (first | apply blk_drewN | apply blk_drew | apply blk_alloc)); refine blk_put (cs := #[.int .i64 0, .int .i64 0, .slice none 0 0]) ?_ 0 _ rfl; (with_reducible repeat (first | apply blk_drewN | apply blk_drew | apply blk_alloc)); exact BK181.out) Tryz.underlying41 rfl (by kernel_rfl)) rfl ?_
    exact ⟨_, zE, by (with_reducible repeat (first | apply Kd.R_alloc | apply Kd.R_drewN | apply Kd.R_drew)); exact Kd.R_mono (Kd.R_far (p := ⟨gb181, 2, none⟩) (Kd.R_far (p := ⟨gb181, 1, none⟩) (Kd.R_far (p := ⟨gb181, 0, none⟩) (Kd.R_types HO_183002.out BK181.out (by decide)) (fun _ hk => hk.2) (.int .i64 a0_0)) (fun _ hk => hk.2) (.int .i64 a0_1)) (fun _ hk => hk.2) (.slice Ao26 x183002_1.length co26)) (fun _ hk => trivial), zB⟩
end Go.Proofs.YtndojpcjhkncgaaGreatDoor.Q
end

section
namespace Go.Proofs.YtndojpcjhkncgaaGreatDoor.Q
open Go.RowKit Go.Proofs.YtndojpcjhkncgaaGreatDoorW.PrintWords
set_option linter.unusedVariables false
set_option linter.unusedSimpArgs false
theorem old_l0 (L : List S49) (n d : Int) (hL : L.length < 8796093022208) (dd : Nat) : ∀ (i : Nat) (s : List S78), i + dd = L.length → s.length = i →
    Ev (fun k => annuitantlaw36_old.l0 k (i : Int) n d L n d s) (n, d, s ++ (L.drop i).map asRef) := by
  induction dd with
  | zero =>
    intro i s hi hs
    rw [List.drop_eq_nil_of_le (by omega)]
    exact Ev.step (fun k => by rw [annuitantlaw36_old.l0]) (Ev.neg (by omega) (Ev.ret (by simp)))
  | succ dd ih =>
    intro i s hi hs
    have hlt : i < L.length := by omega
    rw [drop_get L i hlt]
    refine Ev.step (fun k => by rw [annuitantlaw36_old.l0]) (Ev.pos (by omega) (Ev.pos (by omega) (Ev.pos (by omega) ?_)))
    rw [rdR L i hlt, w64 (by omega) (by omega)]
    refine Ev.eq (ih (i + 1) (s ++ [(⟨L[i].f0, L[i].f1⟩ : S78)]) (by omega) (by simp; omega)) ?_
    show (n, d, (s ++ [asRef L[i]]) ++ (L.drop (i + 1)).map asRef) = (n, d, s ++ (L[i] :: L.drop (i + 1)).map asRef)
    rw [List.map_cons, List.append_assoc]
    rfl
theorem old_ev (n d : Int) (L : List S49) (hL : L.length < 8796093022208) : Ev (fun k => annuitantlaw36_old.f k n d L) (n, d, L.map asRef) := by
  unfold annuitantlaw36_old.f
  exact old_l0 L n d hL L.length 0 [] (by omega) rfl
theorem same_l0 (L : List S47) (hL : (L.length : Int) ≤ 4611686018427387904) (d : Nat) : ∀ (i : Nat), i + d = L.length → Ev (fun k => annuitantlaw36_sameOrders.l0 k L L (i : Int)) true := by
  induction d with
  | zero => intro i hi; exact Ev.step (fun k => by rw [annuitantlaw36_sameOrders.l0]) (Ev.neg (by omega) (Ev.now _))
  | succ d ih =>
    intro i hi
    refine Ev.step (fun k => by rw [annuitantlaw36_sameOrders.l0]) (Ev.pos (by omega) (Ev.pos (by omega) (Ev.pos (by omega) (Ev.neg (by simp) ?_))))
    rw [w64 (by omega) (by omega)]
    exact ih (i + 1) (by omega)
theorem same_ev (L : List S47) (hL : (L.length : Int) ≤ 4611686018427387904) : Ev (fun k => annuitantlaw36_sameOrders.f k L L) true := by
  unfold annuitantlaw36_sameOrders.f
  exact Ev.pos rfl (same_l0 L hL L.length 0 (by omega))
theorem sameFile_ev (n d : Int) (L : List S47) (hL : (L.length : Int) ≤ 4611686018427387904) : Ev (fun k => annuitantlaw36_sameFile.f k n d L n d L) true := by
  unfold annuitantlaw36_sameFile.f
  exact Ev.pos rfl (Ev.pos rfl (Ev.bind (same_ev L hL) (Ev.now true)))
theorem sameA_l0 (n d : Int) (L : List S78) (hL : (L.length : Int) ≤ 4611686018427387904) (dd : Nat) : ∀ (i : Nat), i + dd = L.length → Ev (fun k => annuitantlaw36_sameAnswer.l0 k (i : Int) n d L n d L) true := by
  induction dd with
  | zero => intro i hi; exact Ev.step (fun k => by rw [annuitantlaw36_sameAnswer.l0]) (Ev.neg (by omega) (Ev.now _))
  | succ dd ih =>
    intro i hi
    refine Ev.step (fun k => by rw [annuitantlaw36_sameAnswer.l0]) (Ev.pos (by omega) (Ev.pos (by omega) (Ev.pos (by omega) (Ev.neg (by simp) ?_))))
    rw [w64 (by omega) (by omega)]
    exact ih (i + 1) (by omega)
theorem sameAnswer_ev (n d : Int) (L : List S78) (hL : (L.length : Int) ≤ 4611686018427387904) : Ev (fun k => annuitantlaw36_sameAnswer.f k n d L n d L) true := by
  unfold annuitantlaw36_sameAnswer.f
  refine Ev.pos rfl (Ev.pos rfl (Ev.step (fun k => by rw [annuitantlaw36_sameAnswer.j0]) (Ev.neg (by simp) ?_)))
  exact sameA_l0 n d L hL L.length 0 (by omega)
end Go.Proofs.YtndojpcjhkncgaaGreatDoor.Q
end

section
namespace Go.Proofs.YtndojpcjhkncgaaGreatDoor.Q
open Go.RowKit Go.Proofs.YtndojpcjhkncgaaGreatDoorW.PrintWords Go.Proofs.YtndojpcjhkncgaaGreatDoorW.PrintLast Go.Proofs.YtndojpcjhkncgaaGreatDoorW.PrintMore
attribute [local go_sem] max2_int min2_int max_two min_two max_three min_three max_four min_four   -- for this text's walks alone
set_option linter.unusedVariables false
set_option linter.unusedSimpArgs false
def annuitantlaw36_plain.f (a0_0 : Int) (a0_1 : Int) (l0_2 : List (S47)) : Option (Int × Int × (List (S47))) := some (a0_0, a0_1, l0_2)
set_option maxHeartbeats 8000000 in
set_option maxRecDepth 100000 in
theorem annuitantlaw36_plain.calls (a0_0 : Int) (a0_1 : Int) (P0_2_ : Nat → Prop) (A0_2 : Option Addr) (c0_2 : Nat) (l0_2 : List (S47)) (r1 : Int) (r2 : Int) (r3 : List (S47)) (w : World) (hs0_2 : Kd.V k47 47 w w.heap.size (fun k_ => P0_2_ k_) (.slice A0_2 l0_2.length c0_2) l0_2) (h : annuitantlaw36_plain.f a0_0 a0_1 l0_2 = some (r1, r2, r3)) :
  Calls Tryz.prog 14 #[.agg #[.int .i64 a0_0, .int .i64 a0_1, .slice A0_2 l0_2.length c0_2]] w fun e w' => ∃ v2_ : Value, e = .returned (.agg #[.int .i64 r1, .int .i64 r2, v2_]) ∧ Kd.V k47 47 w' w.heap.size (fun k_ => (P0_2_ k_ ∨ w.heap.size ≤ k_)) v2_ r3 ∧ Below w.heap.size w w' := by
 have hu27 := Tryz.underlying27; have hu36 := Tryz.underlying36; have HO0_2 := Aside0.mk (show Kd.V k47 47 w w.heap.size (fun k_ => (P0_2_ k_ ∨ w.heap.size ≤ k_)) (.slice A0_2 l0_2.length c0_2) l0_2 from Kd.V_mono hs0_2 (fun k_ hk => .inl hk)); have HB := Aside0.mk (Below.refl w.heap.size w); have H : (some (a0_0, a0_1, l0_2)) = some (r1, r2, r3) := h; clear h
 simp only [Option.some.injEq, Prod.mk.injEq] at H
 obtain ⟨rfl, rfl, rfl⟩ := H
 go_enter Tryz.func14, Tryz.ntmps14
 go_wp2_with (first | ((with_reducible refine gate_dst (N := 1) rfl ?_); refine box_event ?hg (N := 1) ?hd (cs := #[.int .i64 a0_0, .int .i64 a0_1, .slice A0_2 l0_2.length c0_2]) (t := 27) ?hr ?_; (case hd => rfl); (case hg => rfl); (case hr => first | (go_simp; done) | (go_simp; rfl)); intro gb178 hg w2 hbox hb; replace HO0_2 := Aside0.mk (Kd.V_below (Kd.V_elderB (zV HO0_2) gb178 (Nat.le_of_eq hg.symm)) hb); have BK178 := Aside0.mk (hbox); have GW178 := zG (w := w) hg; have GE178 := zG (w := w) hg; replace HB := zBs hb; clear hb hbox hg) | ((with_reducible refine gate_dst (N := 2) rfl ?_); refine box_event ?hg (N := 2) ?hd (cs := #[.int .i64 0, .int .i64 0, .slice none 0 0]) (t := 36) ?hr ?_; (case hd => rfl); (case hg => rfl); (case hr => first | (go_simp; done) | (go_simp; rfl)); intro gb179 hg w3 hbox hb; replace HO0_2 := Aside0.mk (Kd.V_below (Kd.V_elderB (zV HO0_2) gb179 (Nat.le_of_eq hg.symm)) hb); have BK179 := Aside0.mk (hbox); have GW179 := zG (w := w) hg; have GE179 := zG (w := w) hg; replace HB := zBs hb; have NB178_179 := zN hg (zK BK178); have NB179_178 := zM hg (zK BK178); replace BK178 := zKb BK178 hb; clear hb hbox hg; have hnb4 := NB178_179.out; have hnc4 := NB179_178.out; obtain ⟨hcz5_0, hcz5_1, hcz5_2⟩ := zC3 BK178; obtain ⟨hfz5_0, hfz5_1, hfz5_2⟩ := zZ3 BK178; obtain ⟨hcz6_0, hcz6_1, hcz6_2⟩ := zC3 BK179; obtain ⟨hfz6_0, hfz6_1, hfz6_2⟩ := zZ3 BK179))
 refine bodyPost_ret (results_cell_row rfl _ _ gb179 36 #[.int .i64 a0_0, .int .i64 a0_1, .slice A0_2 l0_2.length c0_2] (0, 0) _ rfl (by (with_reducible repeat (first | apply blk_drewN | apply blk_drew | apply blk_alloc)); refine blk_put (cs := #[.int .i64 a0_0, .int .i64 a0_1, .slice none 0 0]) ?_ 2 _ rfl; (with_reducible repeat (first | apply blk_drewN | apply blk_drew | apply blk_alloc)); refine blk_put (cs := #[.int .i64 a0_0, .int .i64 0, .slice none 0 0]) ?_ 1 _ rfl; (with_reducible repeat (first | apply blk_drewN | apply blk_drew | apply blk_alloc)); refine blk_put (cs := #[.int .i64 0, .int .i64 0, .slice none 0 0]) ?_ 0 _ rfl; (with_reducible repeat (first | apply blk_drewN | apply blk_drew | apply blk_alloc)); exact BK179.out) Tryz.underlying36 rfl (by kernel_rfl)) rfl ?_
 exact ⟨_, zE, by (with_reducible repeat (first | apply Kd.V_alloc | apply Kd.V_drewN | apply Kd.V_drew)); exact Kd.V_mono (Kd.V_far (p := ⟨gb179, 2, none⟩) (Kd.V_far (p := ⟨gb179, 1, none⟩) (Kd.V_far (p := ⟨gb179, 0, none⟩) (Kd.V_mono HO0_2.out (fun k_ hk => (⟨hk, hk.2⟩ : _ ∧ k_ ≠ gb179))) (fun _ hk => hk.2) (.int .i64 a0_0)) (fun _ hk => hk.2) (.int .i64 a0_1)) (fun _ hk => hk.2) (.slice A0_2 l0_2.length c0_2)) (fun _ hk => hk.1.1.1), zB⟩
end Go.Proofs.YtndojpcjhkncgaaGreatDoor.Q
end
