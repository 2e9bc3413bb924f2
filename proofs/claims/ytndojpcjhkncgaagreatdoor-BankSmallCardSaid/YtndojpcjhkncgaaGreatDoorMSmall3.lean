/- Part 3 of a proof: the texts HRd2, HRd3, HRdA, HRdF, SBack, QFlaw36accepted, QFlaw36change, QFlaw36text, SAcc, QFref36pieces, QFref36numbers, QFref36digits, SParse, QFref36parse, put together by a program of this repo. -/
import Derived.Deep.AppendLies
import Derived.Deep.RegionWith
import Derived.Test.YtndojpcjhkncgaaGreatDoorMSmall2
import Derived.Test.YtndojpcjhkncgaaGreatDoorMSmall1
set_option linter.unusedVariables false
set_option linter.unusedSimpArgs false
section
namespace Go.Proofs.YtndojpcjhkncgaaGreatDoor.Q
open Go Go.RowKit Go.Proofs.YtndojpcjhkncgaaGreatDoorW.PrintWords Go.Proofs.YtndojpcjhkncgaaGreatDoorW.PrintLast Go.Proofs.YtndojpcjhkncgaaGreatDoorW.PrintMore
section
theorem owns_keep {w w' : World} {base : Nat} {e : TypeId} {size : Nat} {v : Value} {n : Nat} {xs : List Value} (h : w.ownsRow base e size v n xs) (hk : ∀ k, base ≤ k → k < w.heap.size → w'.heap[k]? = w.heap[k]?) : w'.ownsRow base e size v n xs := by
  refine ⟨h.1, ?_⟩
  rcases h.2 with h2 | ⟨g, cap, cur, h1, h2, h3, h4⟩
  · exact .inl h2
  · exact .inr ⟨g, cap, cur, h1, h2, (hk g h2 (blk_lt h3)).trans h3, h4⟩
theorem owns_ne {w : World} {base : Nat} {e : TypeId} {size : Nat} {v : Value} {n : Nat} {xs : List Value} (h : w.ownsRow base e size v n xs) (k : Nat) (hk : k < base) : some k ≠ v.ownBlock := by
  rcases h.2 with ⟨h1, _⟩ | ⟨g, cap, cur, h1, h2, _⟩
  · rw [h1]
    exact fun e => by cases e
  · rw [h1]
    intro e
    have : k = g := by injection e
    omega
theorem set_at {α : Type} (xs ys : List α) (i : Nat) (v : α) : (xs ++ ys).set (xs.length + i) v = xs ++ ys.set i v := by
  rw [List.set_append_right _ _ (by omega), Nat.add_sub_cancel_left]
theorem owns_set5 {W : World} {base g cap n : Nat} {xs zs : List Value} {t : TypeId} (h : W.ownsRow base t 5 (.slice (some ⟨g, 0, none⟩) (n + 1) cap) (n + 1) (xs ++ zs)) (hx : xs.length = n * 5) (ns : List Int) (hn : ns.length = 5) :
    (setAll W ([(g, n * 5), (g, n * 5 + 1), (g, n * 5 + 2), (g, n * 5 + 3), (g, n * 5 + 4)].zip ns)).ownsRow base t 5 (.slice (some ⟨g, 0, none⟩) (n + 1) cap) (n + 1) (xs ++ ns.map (Value.int .i64)) := by
  obtain ⟨x0, x1, x2, x3, x4, rfl⟩ : ∃ x0 x1 x2 x3 x4, ns = [x0, x1, x2, x3, x4] := by
    match ns, hn with
    | [x0, x1, x2, x3, x4], _ => exact ⟨x0, x1, x2, x3, x4, rfl⟩
  have hz : zs.length = 5 := by
    have := h.1
    rw [List.length_append, hx] at this
    omega
  rcases h.2 with ⟨h0, _⟩ | ⟨g', cap', cur, he, hb, hg, h1, h2, h3, h4⟩
  · cases h0
  · obtain ⟨rfl, rfl⟩ : g = g' ∧ cap = cap' := by injection he with e1 e2 e3; injection e1 with e1; injection e1 with e1; exact ⟨e1, e3⟩
    obtain ⟨rest, hr⟩ : ∃ rest, cur.toList = xs ++ zs ++ rest := ⟨cur.toList.drop ((n + 1) * 5), by rw [← h4, List.take_append_drop]⟩
    obtain ⟨z0, z1, z2, z3, z4, rfl⟩ : ∃ z0 z1 z2 z3 z4, zs = [z0, z1, z2, z3, z4] := by
      match zs, hz with
      | [z0, z1, z2, z3, z4], _ => exact ⟨z0, z1, z2, z3, z4, rfl⟩
    refine ⟨by simp [hx]; omega, .inr ⟨g, cap, _, rfl, hb, blk_put (blk_put (blk_put (blk_put (blk_put hg (n * 5) (.int .i64 x0) rfl) (n * 5 + 1) (.int .i64 x1) rfl) (n * 5 + 2) (.int .i64 x2) rfl) (n * 5 + 3) (.int .i64 x3) rfl) (n * 5 + 4) (.int .i64 x4) rfl, h1, h2, by simp [h3], ?_⟩⟩
    simp only [Array.toList_setIfInBounds]
    rw [hr, ← hx, List.append_assoc]
    have e0 := set_at xs ([z0, z1, z2, z3, z4] ++ rest) 0 (.int .i64 x0)
    rw [Nat.add_zero] at e0
    rw [e0, set_at, set_at, set_at, set_at]
    have hl : (n + 1) * 5 = (xs ++ [Value.int .i64 x0, .int .i64 x1, .int .i64 x2, .int .i64 x3, .int .i64 x4]).length := by rw [List.length_append, hx]; simp; omega
    rw [hl]
    show List.take _ (xs ++ ([Value.int .i64 x0, .int .i64 x1, .int .i64 x2, .int .i64 x3, .int .i64 x4] ++ rest)) = _
    rw [← List.append_assoc, List.take_left']
    · rfl
    · rfl
set_option maxHeartbeats 1000000 in
set_option maxRecDepth 100000 in
theorem read2_go (l : List UInt8) (hl : l.length ≤ 1048576) (w0 w : World) (hG0 : GG w0) (hlow : Below w0.heap.size w0 w) (bf base : Nat) (a b v : Value) (n : Nat) (xs : List Value)
    (hf : w.heap[bf]? = some (.cells #[a, b, v] 27 (0, 0))) (b1 : w0.heap.size ≤ bf) (b2 : bf < base) (b3 : base ≤ w.heap.size) (hn : n ≤ 1048576) (hown : w.ownsRow base 47 5 v n xs) :
    Calls Tryz.prog 50 #[.string (Bt l), .pointer (some ⟨bf, 0, none⟩)] w fun e w' =>
      ∃ v', e = .returned (.bool (scanF l orderW 5).isSome) ∧ (∀ ns, scanF l orderW 5 = some ns → w'.ownsRow base 47 5 v' (n + 1) (xs ++ ns.map (Value.int .i64))) ∧
        w'.heap[bf]? = some (.cells #[a, b, v'] 27 (0, 0)) ∧ (∀ k, k < base → k ≠ bf → w'.heap[k]? = w.heap[k]?) ∧ Below w0.heap.size w0 w' ∧ w.heap.size ≤ w'.heap.size := by
  have lf := blk_lt hf
  have c2 : w.cell? ⟨bf, 2, none⟩ = some v := bkc hf 2
  obtain ⟨i0, hi, hz0, hz1, hz2⟩ := info_parts info47
  have HO := Lib.hid hown
  have HL := Lib.hid hlow
  have HF := Lib.hid hf
  clear hown hlow hf
  go_enter Tryz.func50, Tryz.ntmps50
  go_wp2_with (at_builtin; refine wpList_append_lies _ rfl _ _ 25 rfl base 47 i0 _ 5 40 Tryz.underlying25 hi hz0 hz1 hz2 rfl (by decide) v n xs rfl (owns_keep HO.out (fun k _ hk => (bla (bla (Below.refl w.heap.size w) _) _).block k hk)) ⟨w.heap.size + 1, 0, none⟩ 1 1 [.int .i64 0, .int .i64 0, .int .i64 0, .int .i64 0, .int .i64 0] ?c1 rfl ?c2 ?c3 (by decide) ?c4 ?c5 ?c6 _ rfl ?_)
  case c1 => rfl
  case c2 => exact World.news_of_block (B := w.heap.size + 1) (cs := #[.int .i64 0, .int .i64 0, .int .i64 0, .int .i64 0, .int .i64 0]) (by rw [← World.size_alloc w (.cells #[.int .i64 0, .int .i64 0, .int .i64 0, .int .i64 0, .int .i64 0] 47)]; exact blk_new _ _)
  case c3 => intro u hu; simp at hu; subst hu; rfl
  case c4 => unfold maxLen; omega
  case c5 => omega
  case c6 => simp; omega
  intro g cap w1 hown1 hgrow hat hlt
  have hb0 := bla (bla (Below.refl w.heap.size w) (.cells #[.int .i64 0, .int .i64 0, .int .i64 0, .int .i64 0, .int .i64 0] 47)) (.cells #[.int .i64 0, .int .i64 0, .int .i64 0, .int .i64 0, .int .i64 0] 47)
  have hf1 : w1.heap[bf]? = some (.cells #[a, b, v] 27 (0, 0)) := (hgrow.block bf (by simp; omega) (owns_ne HO.out bf b2)).trans ((hb0.block bf lf).trans HF.out)
  have hk1 : ∀ k, k < base → w1.heap[k]? = w.heap[k]? := fun k hk => (hgrow.block k (by simp; omega) (owns_ne HO.out k hk)).trans (hb0.block k (by omega))
  have hl1 : Below w0.heap.size w0 w1 := HL.out.trans ⟨hgrow.os.trans hb0.os, hgrow.tape.trans hb0.tape, hgrow.output.trans hb0.output, Nat.le_trans hb0.size hgrow.size, fun k hk => hk1 k (by omega)⟩
  have hs1 : w.heap.size ≤ w1.heap.size := Nat.le_trans hb0.size hgrow.size
  obtain ⟨v', hv'⟩ : ∃ v' : Value, v' = .slice (some ⟨g, 0, none⟩) (n + 1) cap := ⟨_, rfl⟩
  have d2 : w1.cell? ⟨bf, 2, none⟩ = some v := bkc hf1 2
  have f2 : w1.frozen? ⟨bf, 2, none⟩ = false := bkf hf1 2
  have hf2 := blk_put hf1 2 (.slice (some ⟨g, 0, none⟩) (n + 1) cap) rfl
  have e2 : (w1.setCell ⟨bf, 2, none⟩ (.slice (some ⟨g, 0, none⟩) (n + 1) cap)).cell? ⟨bf, 2, none⟩ = some (.slice (some ⟨g, 0, none⟩) (n + 1) cap) := bkc hf2 2
  have HO1 := Lib.hid hown1
  have HK1 := Lib.hid hk1
  have HL1 := Lib.hid hl1
  have HS1 := Lib.hid hs1
  have HF2 := Lib.hid hf2
  have HG := Lib.hid hlt
  clear hown1 hgrow hat hb0 hk1 hl1 hs1 hf2 hf1 c2 hlt HO HL HF hi hz0 hz1 hz2
  have k1 : wrap64 (((n + 1 : Nat) : Int) - 1) = (n : Int) := by rw [IntWalk.wrap64_in _ ⟨by omega, by omega⟩]; omega
  have k2 : (n : Int) < ((n + 1 : Nat) : Int) := by omega
  have k3 : (0 : Int) ≤ (n : Int) := by omega
  go_wp2_with fail
  have own2 : (w1.setCell ⟨bf, 2, none⟩ (.slice (some ⟨g, 0, none⟩) (n + 1) cap)).ownsRow base 47 5 (.slice (some ⟨g, 0, none⟩) (n + 1) cap) (n + 1) (xs ++ [.int .i64 0, .int .i64 0, .int .i64 0, .int .i64 0, .int .i64 0]) :=
    owns_keep HO1.out (fun k hk _ => Below.heap_setCell _ _ _ _ (by show k ≠ bf; omega))
  have hk2 : ∀ k, k < base → k ≠ bf → (w1.setCell ⟨bf, 2, none⟩ (.slice (some ⟨g, 0, none⟩) (n + 1) cap)).heap[k]? = w.heap[k]? := fun k hk hne => (Below.heap_setCell _ _ _ _ hne).trans (HK1.out k hk)
  have hl2 : Below w0.heap.size w0 (w1.setCell ⟨bf, 2, none⟩ (.slice (some ⟨g, 0, none⟩) (n + 1) cap)) := HL1.out.setCell (p := ⟨bf, 2, none⟩) b1 _
  have hs2 : w.heap.size ≤ (w1.setCell ⟨bf, 2, none⟩ (.slice (some ⟨g, 0, none⟩) (n + 1) cap)).heap.size := by simpa [World.setCell] using HS1.out
  have hf2 : (w1.setCell ⟨bf, 2, none⟩ (.slice (some ⟨g, 0, none⟩) (n + 1) cap)).heap[bf]? = some (.cells #[a, b, .slice (some ⟨g, 0, none⟩) (n + 1) cap] 27 (0, 0)) := HF2.out
  clear HO1 HK1 HL1 HS1 HF2 d2 f2 e2 HG
  generalize w1.setCell ⟨bf, 2, none⟩ (.slice (some ⟨g, 0, none⟩) (n + 1) cap) = w2 at own2 hk2 hl2 hs2 hf2 ⊢
  obtain ⟨hxl, hbg, cur, hcur, hcs⟩ : xs.length = n * 5 ∧ base ≤ g ∧ ∃ cur, w2.heap[g]? = some (.cells cur 47 (0, 0)) ∧ n * 5 + 5 ≤ cur.size := by
    have h0 := own2.1
    rw [List.length_append] at h0
    simp only [List.length_cons, List.length_nil] at h0
    rcases own2.2 with ⟨h1, _⟩ | ⟨g', cap', cur, he, hb, hg, h1, h2, h3, h4⟩
    · cases h1
    · obtain ⟨rfl, rfl⟩ : g = g' ∧ cap = cap' := by injection he with e1 e2 e3; injection e1 with e1; injection e1 with e1; exact ⟨e1, e3⟩
      exact ⟨by omega, hb, cur, hg, by rw [h3]; omega⟩
  have hS : Calls Tryz.prog 49 #[.string (Bt l), .string ⟨#[111, 114, 100, 101, 114]⟩, .slice (some ⟨w2.heap.size, 0, none⟩) 5 5] (w2.drew.alloc (.cells #[.pointer (some ⟨g, n * 5, none⟩), .pointer (some ⟨g, n * 5 + 1, none⟩), .pointer (some ⟨g, n * 5 + 2, none⟩), .pointer (some ⟨g, n * 5 + 3, none⟩), .pointer (some ⟨g, n * 5 + 4, none⟩)] 90 (0, 0))) _ :=
    scan_go l orderW hl [(g, n * 5), (g, n * 5 + 1), (g, n * 5 + 2), (g, n * 5 + 3), (g, n * 5 + 4)] (by show 5 ≤ 100; decide) w2.drew.heap.size w0 _ hG0 (bla hl2.drew _) (blk_new w2.drew _) (by
      intro p hp
      have hg := blk_lt hcur
      simp only [List.mem_cons, List.not_mem_nil, or_false] at hp
      have : p.1 = g ∧ p.2 < n * 5 + 5 := by rcases hp with rfl | rfl | rfl | rfl | rfl <;> exact ⟨rfl, by simp⟩
      obtain ⟨e1, e2⟩ := this
      rw [e1]
      exact ⟨by show g ≠ w2.heap.size; omega, by omega, cur, _, blk_alloc (blk_drew hcur) _, by omega⟩)
  have HS := Lib.hid hS
  have HO2 := Lib.hid own2
  have HK2 := Lib.hid hk2
  have HL2 := Lib.hid hl2
  have HS2 := Lib.hid hs2
  have HF2 := Lib.hid hf2
  have HC := Lib.hid (And.intro hxl (And.intro hbg (blk_lt hcur)))
  clear hS own2 hk2 hl2 hs2 hf2 hxl hbg hcur hcs k1 k2 k3
  go_region_with (go_at_call 49; refine HS.out.mono ?_; rintro e w' ⟨ms, rfl, hm1, hm2, hb⟩)
  have hx : ∀ x ∈ [(g, n * 5), (g, n * 5 + 1), (g, n * 5 + 2), (g, n * 5 + 3), (g, n * 5 + 4)].zip ms, x.1.1 = g := by
    intro x hx
    have hx := (List.of_mem_zip hx).1
    simp only [List.mem_cons, List.not_mem_nil, or_false] at hx
    rcases hx with e | e | e | e | e <;> rw [e]
  have hC := HC.out
  have hB : Below w2.heap.size (setAll w2 ([(g, n * 5), (g, n * 5 + 1), (g, n * 5 + 2), (g, n * 5 + 3), (g, n * 5 + 4)].zip ms)) w' :=
    (setAll_both _ (bla (below_drew (Below.refl w2.heap.size w2)) _) (fun x h => by rw [hx x h]; exact hC.2.2)).trans (hb.mono (by simp))
  have q1 : ∀ ns, scanF l orderW 5 = some ns → w'.ownsRow base 47 5 (.slice (some ⟨g, 0, none⟩) (n + 1) cap) (n + 1) (xs ++ ns.map (Value.int .i64)) := fun ns h => by
    have e := hm2 ns h
    subst e
    exact owns_keep (owns_set5 HO2.out hC.1 ms (scanF_len _ _ _ _ h)) (fun k _ hk => hB.block k (by rwa [setAll_size] at hk))
  have q2 : ∀ k, k < base → w'.heap[k]? = w2.heap[k]? := fun k hk => (hB.block k (by omega)).trans (setAll_other _ _ _ (fun x h => by rw [hx x h]; omega))
  have q3 : Below w0.heap.size w0 w' := (HL2.out.trans (setAll_below _ _ _ (fun x h => by rw [hx x h]; omega))).trans (hB.mono (by have := HL2.out.size; omega))
  have q4 : w.heap.size ≤ w'.heap.size := by have h1 := HS2.out; have h2 := hB.size; rw [setAll_size] at h2; omega
  have Q := Lib.hid (And.intro q1 (And.intro ((q2 bf b2).trans HF2.out) (And.intro (fun k (hk : k < base) (hne : k ≠ bf) => (q2 k hk).trans (HK2.out k hk hne)) (And.intro q3 q4))))
  clear hx hC hB q1 q2 q3 q4 hm1 hm2 hb HS HO2 HK2 HL2 HS2 HF2 HC
  go_wp2_with fail
  go_ret
  refine ⟨.slice (some ⟨g, 0, none⟩) (n + 1) cap, by simp [Act.put], Q.out⟩
end
section
theorem two_set (W : World) (r : Nat) (t : TypeId) (h : W.heap[r]? = some (.cells #[.int .i64 0, .int .i64 0] t (0, 0))) (ms : List Int) (hm : ms.length ≤ 2) :
    ∃ x0 x1, (setAll W ([(r, 0), (r, 1)].zip ms)).heap[r]? = some (.cells #[.int .i64 x0, .int .i64 x1] t (0, 0)) ∧ (ms.length = 2 → ms = [x0, x1]) := by
  match ms, hm with
  | [], _ => exact ⟨0, 0, h, fun e => by cases e⟩
  | [m0], _ => exact ⟨m0, 0, blk_put h 0 (.int .i64 m0) rfl, fun e => by cases e⟩
  | [m0, m1], _ => exact ⟨m0, m1, blk_put (blk_put h 0 (.int .i64 m0) rfl) 1 (.int .i64 m1) rfl, fun e => rfl⟩
  | _ :: _ :: _ :: _, h => exact absurd h (by simp)
set_option maxHeartbeats 1000000 in
set_option maxRecDepth 100000 in
theorem answer2_go (l : List UInt8) (hl : l.length ≤ 1048576) (w0 w : World) (hG0 : GG w0) (hlow : Below w0.heap.size w0 w) (bf base : Nat) (a b v : Value) (n : Nat) (xs : List Value)
    (hf : w.heap[bf]? = some (.cells #[a, b, v] 30 (0, 0))) (b1 : w0.heap.size ≤ bf) (b2 : bf < base) (b3 : base ≤ w.heap.size) (hn : n ≤ 1048576) (hown : w.ownsRow base 49 2 v n xs) :
    Calls Tryz.prog 52 #[.string (Bt l), .pointer (some ⟨bf, 0, none⟩)] w fun e w' =>
      ∃ v', e = .returned (.bool (scanF l returnW 2).isSome) ∧ (∀ ns, scanF l returnW 2 = some ns → w'.ownsRow base 49 2 v' (n + 1) (xs ++ ns.map (Value.int .i64))) ∧
        w'.heap[bf]? = some (.cells #[a, b, v'] 30 (0, 0)) ∧ (∀ k, k < base → k ≠ bf → w'.heap[k]? = w.heap[k]?) ∧ Below w0.heap.size w0 w' ∧ w.heap.size ≤ w'.heap.size := by
  have lf := blk_lt hf
  obtain ⟨i0, hi, hz0, hz1, hz2⟩ := info_parts info49
  have hr1 : ((w.alloc (.cells #[.int .i64 0, .int .i64 0] 49 (0, 0))).alloc (.cells #[.pointer (some ⟨w.heap.size, 0, none⟩), .pointer (some ⟨w.heap.size, 1, none⟩)] 90 (0, 0))).heap[w.heap.size]? = some (.cells #[.int .i64 0, .int .i64 0] 49 (0, 0)) := blk_alloc (blk_new w _) _
  have hb1 : Below w.heap.size w ((w.alloc (.cells #[.int .i64 0, .int .i64 0] 49 (0, 0))).alloc (.cells #[.pointer (some ⟨w.heap.size, 0, none⟩), .pointer (some ⟨w.heap.size, 1, none⟩)] 90 (0, 0))) := ((Below.refl _ w).alloc (Nat.le_refl _) _).alloc (by simp) _
  have hsz1 : (w.alloc (.cells #[.int .i64 0, .int .i64 0] 49 (0, 0))).heap.size = w.heap.size + 1 := by simp
  have hS : Calls Tryz.prog 49 #[.string (Bt l), .string ⟨#[114, 101, 116, 117, 114, 110]⟩, .slice (some ⟨w.heap.size + 1, 0, none⟩) 2 2] ((w.alloc (.cells #[.int .i64 0, .int .i64 0] 49 (0, 0))).alloc (.cells #[.pointer (some ⟨w.heap.size, 0, none⟩), .pointer (some ⟨w.heap.size, 1, none⟩)] 90 (0, 0))) _ :=
    scan_go l returnW hl [(w.heap.size, 0), (w.heap.size, 1)] (by show 2 ≤ 100; decide) (w.heap.size + 1) w0 _ hG0 (hlow.trans (hb1.mono hlow.size)) (by rw [← hsz1]; exact blk_new _ _) (by
      intro p hp
      simp only [List.mem_cons, List.not_mem_nil, or_false] at hp
      have : p.1 = w.heap.size ∧ p.2 < 2 := by rcases hp with rfl | rfl <;> exact ⟨rfl, by simp⟩
      obtain ⟨e1, e2⟩ := this
      rw [e1]
      exact ⟨by omega, hlow.size, _, _, hr1, e2⟩)
  have HS := Lib.hid hS
  have HO := Lib.hid hown
  have HL := Lib.hid hlow
  have HF := Lib.hid hf
  have HR1 := Lib.hid hr1
  have HB1 := Lib.hid hb1
  clear hS hown hlow hf hr1 hb1 hsz1
  go_enter Tryz.func52, Tryz.ntmps52
  go_wp2_with fail
  refine HS.out.mono ?_
  rintro e w3 ⟨ms, rfl, hm1, hm2, hb⟩
  obtain ⟨x0, x1, hx, hm3⟩ := two_set _ _ _ HR1.out ms hm1
  have hsz : ((w.alloc (.cells #[.int .i64 0, .int .i64 0] 49 (0, 0))).alloc (.cells #[.pointer (some ⟨w.heap.size, 0, none⟩), .pointer (some ⟨w.heap.size, 1, none⟩)] 90 (0, 0))).heap.size = w.heap.size + 2 := by simp
  rw [hsz] at hb
  have hr3 : w3.heap[w.heap.size]? = some (.cells #[.int .i64 x0, .int .i64 x1] 49 (0, 0)) := (hb.block _ (by omega)).trans hx
  have hz : ∀ y ∈ [(w.heap.size, 0), (w.heap.size, 1)].zip ms, y.1.1 = w.heap.size := by
    intro y hy
    have hy := (List.of_mem_zip hy).1
    simp only [List.mem_cons, List.not_mem_nil, or_false] at hy
    rcases hy with e | e <;> rw [e]
  have hk3 : Below w.heap.size w w3 := (HB1.out.trans (setAll_below _ _ _ (fun y hy => Nat.le_of_eq (hz y hy).symm))).trans (hb.mono (by omega))
  have hns : ∀ ns, scanF l returnW 2 = some ns → ns = [x0, x1] := fun ns h => by
    have e := hm2 ns h
    subst e
    exact hm3 (scanF_len _ _ _ _ h)
  have hf3 := (hk3.block bf lf).trans HF.out
  have c2 : w3.cell? ⟨bf, 2, none⟩ = some v := bkc hf3 2
  have r0 : w3.cell? ⟨w.heap.size, 0, none⟩ = some (.int .i64 x0) := bkc hr3 0
  have r1 : w3.cell? ⟨w.heap.size, 1, none⟩ = some (.int .i64 x1) := bkc hr3 1
  have HO3 := Lib.hid (owns_keep HO.out (fun k _ hk => hk3.block k hk))
  have HK3 := Lib.hid hk3
  have HF3 := Lib.hid hf3
  have HNS := Lib.hid hns
  have hs3 := hk3.size
  clear hb hx hm1 hm2 hm3 hsz hr3 hz hk3 hf3 hns HS HR1 HB1
  go_wp2_with (at_builtin; refine wpList_append_lies _ rfl _ _ 28 rfl base 49 i0 _ 2 16 Tryz.underlying28 hi hz0 hz1 hz2 rfl (by decide) v n xs rfl (owns_keep HO3.out (fun k _ hk => (bla (Below.refl w3.heap.size w3) _).block k hk)) ⟨w3.heap.size, 0, none⟩ 1 1 [.int .i64 x0, .int .i64 x1] ?c1 rfl ?c2 ?c3 (by decide) ?c4 ?c5 ?c6 _ rfl ?_)
  case c1 => rfl
  case c2 => exact World.news_of_block (B := w3.heap.size) (cs := #[.int .i64 x0, .int .i64 x1]) (blk_new _ _)
  case c3 => intro u hu; simp at hu; rcases hu with rfl | rfl <;> rfl
  case c4 => unfold maxLen; omega
  case c5 => omega
  case c6 => simp; omega
  intro g cap w4 hown4 hgrow hat hlt
  have hb0 := bla (Below.refl w3.heap.size w3) (.cells #[.int .i64 x0, .int .i64 x1] 49)
  have hk4 : ∀ k, k < base → w4.heap[k]? = w3.heap[k]? := fun k hk => (hgrow.block k (by simp; omega) (owns_ne HO3.out k hk)).trans (hb0.block k (by omega))
  have hf4 : w4.heap[bf]? = some (.cells #[a, b, v] 30 (0, 0)) := (hk4 bf b2).trans HF3.out
  have hs4 : w3.heap.size ≤ w4.heap.size := Nat.le_trans hb0.size hgrow.size
  have hl4 : Below w0.heap.size w3 w4 := ⟨hgrow.os.trans hb0.os, hgrow.tape.trans hb0.tape, hgrow.output.trans hb0.output, hs4, fun k hk => hk4 k (by omega)⟩
  have d2 : w4.cell? ⟨bf, 2, none⟩ = some v := bkc hf4 2
  have f2 : w4.frozen? ⟨bf, 2, none⟩ = false := bkf hf4 2
  have hf5 := blk_put hf4 2 (.slice (some ⟨g, 0, none⟩) (n + 1) cap) rfl
  have own5 : (w4.setCell ⟨bf, 2, none⟩ (.slice (some ⟨g, 0, none⟩) (n + 1) cap)).ownsRow base 49 2 (.slice (some ⟨g, 0, none⟩) (n + 1) cap) (n + 1) (xs ++ [.int .i64 x0, .int .i64 x1]) :=
    owns_keep hown4 (fun k hk _ => Below.heap_setCell _ _ _ _ (by show k ≠ bf; omega))
  have q1 : ∀ k, k < base → k ≠ bf → (w4.setCell ⟨bf, 2, none⟩ (.slice (some ⟨g, 0, none⟩) (n + 1) cap)).heap[k]? = w.heap[k]? := fun k hk hne => (Below.heap_setCell _ _ _ _ hne).trans ((hk4 k hk).trans (HK3.out.block k (by omega)))
  have q2 : Below w0.heap.size w0 (w4.setCell ⟨bf, 2, none⟩ (.slice (some ⟨g, 0, none⟩) (n + 1) cap)) := ((HL.out.trans (HK3.out.mono HL.out.size)).trans hl4).setCell (p := ⟨bf, 2, none⟩) b1 _
  have hs5 : w.heap.size ≤ w4.heap.size := by omega
  have q3 : w.heap.size ≤ (w4.setCell ⟨bf, 2, none⟩ (.slice (some ⟨g, 0, none⟩) (n + 1) cap)).heap.size := by simpa [World.setCell] using hs5
  have Q := Lib.hid (And.intro (fun ns (h : scanF l returnW 2 = some ns) => show (w4.setCell ⟨bf, 2, none⟩ (.slice (some ⟨g, 0, none⟩) (n + 1) cap)).ownsRow base 49 2 (.slice (some ⟨g, 0, none⟩) (n + 1) cap) (n + 1) (xs ++ ns.map (Value.int .i64)) by rw [HNS.out ns h]; exact own5) (And.intro (show _ = some (Obj.cells #[a, b, .slice (some ⟨g, 0, none⟩) (n + 1) cap] 30 (0, 0)) from hf5) (And.intro q1 (And.intro q2 q3))))
  clear hs5 hown4 hgrow hat hlt hb0 hk4 hf4 hs4 hl4 hf5 own5 q1 q2 q3 c2 r0 r1 HO3 HK3 HF3 HNS hs3 HO HL HF hi hz0 hz1 hz2
  go_wp2_with fail
  go_ret
  exact ⟨.slice (some ⟨g, 0, none⟩) (n + 1) cap, rfl, Q.out⟩
end
section
def toRet (r : List Int) : S49 := ⟨r.getD 0 0, r.getD 1 0⟩
def retCells (o : S49) : List Value := [.int .i64 o.f0, .int .i64 o.f1]
def answerSt : List (List UInt8) → Option (Int × Int × Int × List S49)
  | [] => some (0, 0, 0, [])
  | l :: ls => match scanF l backL 3, scansF returnW 2 ls with | some h, some rs => some (h.getD 0 0, h.getD 1 0, h.getD 2 0, rs.map toRet) | _, _ => none
abbrev answerOk := lineOk backL 3 returnW 2
def answerR (t : List UInt8) : Int × Int × List S49 × Int :=
  if readC answerOk t = 0 then
    match answerSt (linesOf t) with
    | some (n, d, k, L) => if rightB n d L = true then (if k = (L.length : Int) then (n, d, L, 0) else (0, 0, [], 362)) else (0, 0, [], 362)
    | none => (0, 0, [], 0)
  else (0, 0, [], readC answerOk t)
theorem scansF_len (w : List UInt8) (m : Nat) : ∀ (ls : List (List UInt8)) (rs : List (List Int)), scansF w m ls = some rs → rs.length = ls.length
  | [], rs, h => by cases h; rfl
  | l :: ls, rs, h => by
    rw [scansF] at h
    cases h1 : scanF l w m with
    | none => rw [h1] at h; cases h
    | some r =>
      cases h2 : scansF w m ls with
      | none => rw [h1, h2] at h; cases h
      | some s =>
        rw [h1, h2] at h
        cases h
        rw [List.length_cons, List.length_cons, scansF_len w m ls s h2]
theorem answerSt_some (l : List UInt8) (ls : List (List UInt8)) (n d k : Int) (L : List S49) (h : answerSt (l :: ls) = some (n, d, k, L)) : ∃ a rs, scanF l backL 3 = some a ∧ scansF returnW 2 ls = some rs ∧ n = a.getD 0 0 ∧ d = a.getD 1 0 ∧ k = a.getD 2 0 ∧ L = rs.map toRet := by
  have h : (match scanF l backL 3, scansF returnW 2 ls with | some h, some rs => some (h.getD 0 0, h.getD 1 0, h.getD 2 0, rs.map toRet) | _, _ => none) = some (n, d, k, L) := h
  cases h1 : scanF l backL 3 with
  | none => rw [h1] at h; cases h
  | some a =>
    cases h2 : scansF returnW 2 ls with
    | none => rw [h1, h2] at h; cases h
    | some rs =>
      rw [h1, h2] at h
      cases h
      exact ⟨a, rs, rfl, rfl, rfl, rfl, rfl, rfl⟩
theorem answerSt_mk (l : List UInt8) (ls : List (List UInt8)) (a : List Int) (rs : List (List Int)) (h1 : scanF l backL 3 = some a) (h2 : scansF returnW 2 ls = some rs) : answerSt (l :: ls) = some (a.getD 0 0, a.getD 1 0, a.getD 2 0, rs.map toRet) := by
  show (match scanF l backL 3, scansF returnW 2 ls with | some h, some rs => some (h.getD 0 0, h.getD 1 0, h.getD 2 0, rs.map toRet) | _, _ => none) = _
  rw [h1, h2]
theorem answerSt_snoc (pre : List (List UInt8)) (hp : pre ≠ []) (x : List UInt8) (n d k : Int) (L : List S49) (r : List Int) (h : answerSt pre = some (n, d, k, L)) (hx : scanF x returnW 2 = some r) : answerSt (pre ++ [x]) = some (n, d, k, L ++ [toRet r]) := by
  cases pre with
  | nil => exact absurd rfl hp
  | cons l ls =>
    obtain ⟨a, rs, h1, h2, rfl, rfl, rfl, rfl⟩ := answerSt_some l ls n d k L h
    rw [List.cons_append, answerSt_mk l (ls ++ [x]) a (rs ++ [r]) h1 (by rw [scansF_snoc, h2, hx])]
    simp
theorem answerSt_len (pre : List (List UInt8)) (n d k : Int) (L : List S49) (h : answerSt pre = some (n, d, k, L)) : L.length ≤ pre.length := by
  cases pre with
  | nil => unfold answerSt at h; cases h; exact Nat.le_refl _
  | cons l ls =>
    obtain ⟨a, rs, h1, h2, rfl, rfl, rfl, rfl⟩ := answerSt_some l ls n d k L h
    have := scansF_len returnW 2 ls rs h2
    rw [List.length_map, List.length_cons]
    omega
def AI (w0 : World) (ba bc B1 : Nat) (pre : List (List UInt8)) (W : World) : Prop :=
  Below w0.heap.size w0 W ∧ ∃ n d k L v, answerSt pre = some (n, d, k, L) ∧ W.heap[ba]? = some (.cells #[.int .i64 n, .int .i64 d, v] 30 (0, 0)) ∧ W.heap[bc]? = some (.cells #[.int .i64 k] 3 (0, 0)) ∧ W.ownsRow B1 49 2 v L.length (L.flatMap retCells)
theorem AI_out {w0 w : World} {ba bc B1 : Nat} {pre : List (List UInt8)} {A B : World} (h0 : w0.heap.size ≤ w.heap.size) (ha : ba < w.heap.size) (hc : bc < w.heap.size) (h : AI w0 ba bc B1 pre A) (ho : OutN w.heap.size B1 A B) : AI w0 ba bc B1 pre B := by
  obtain ⟨h1, n, d, k, L, v, h2, h3, h4, h5⟩ := h
  refine ⟨h1.trans ⟨ho.os, ho.tape, ho.output, ho.size, fun k hk => ho.same k (by have := h1.size; omega) (by omega)⟩, n, d, k, L, v, h2, (ho.same _ (blk_lt h3) (.inl ha)).trans h3, (ho.same _ (blk_lt h4) (.inl hc)).trans h4, owns_keep h5 (fun k hk hl => ho.same k hl (.inr hk))⟩
theorem answer_round (w0 w : World) (hG0 : GG w0) (h0 : w0.heap.size ≤ w.heap.size) (ba bc : Nat) (hba : w0.heap.size ≤ ba) (hbc : w0.heap.size ≤ bc) (hba2 : ba < w.heap.size) (hbc2 : bc < w.heap.size) (hne : ba ≠ bc) (B1 : Nat) (pre : List (List UInt8)) (x : List UInt8) (W : World)
    (hB : w.heap.size ≤ B1) (hBW : B1 ≤ W.heap.size) (hpl : pre.length ≤ 1048576) (hxl : x.length ≤ 1048576) (h : AI w0 ba bc B1 pre W) :
    Calls Tryz.prog (if pre = [] then 51 else 52) (#[.string (Bt x)] ++ (if pre = [] then #[.pointer (some ⟨ba, 0, none⟩), .pointer (some ⟨bc, 0, none⟩)] else #[.pointer (some ⟨ba, 0, none⟩)])) W fun e W' =>
      e = .returned (.bool (answerOk pre x)) ∧ (answerOk pre x = true → AI w0 ba bc B1 (pre ++ [x]) W') ∧ (∀ k, w.heap.size ≤ k → k < B1 → W'.heap[k]? = W.heap[k]?) ∧ Below w0.heap.size w0 W' ∧ W.heap.size ≤ W'.heap.size := by
  obtain ⟨h1, n, d, k, L, v, h2, h3, h4, h5⟩ := h
  by_cases hp : pre = []
  · subst hp
    rw [if_pos rfl, if_pos rfl]
    refine (answer1_go x hxl w0 W hG0 h1 ba bc _ _ _ _ h3 h4 (by show 1 < 3; omega) (by show 0 < 1; omega) hba hbc).mono ?_
    rintro e W' ⟨ms, rfl, hm1, hm2, hb⟩
    have hok : answerOk [] x = (scanF x backL 3).isSome := by unfold answerOk lineOk; rw [if_pos rfl]
    have hz : ∀ y ∈ [(ba, 0), (ba, 1), (bc, 0)].zip ms, y.1.1 = ba ∨ y.1.1 = bc := by
      intro y hy
      have hy := (List.of_mem_zip hy).1
      simp only [List.mem_cons, List.not_mem_nil, or_false] at hy
      rcases hy with e | e | e <;> rw [e] <;> simp
    have hs : W.heap.size ≤ W'.heap.size := by have := hb.size; rwa [setAll_size] at this
    refine ⟨by rw [hok], ?_, fun k hk hk2 => (hb.block k (by omega)).trans (setAll_other _ _ _ (fun y hy => by have := hz y hy; omega)), (h1.trans (setAll_below _ _ _ (fun y hy => by have := hz y hy; omega))).trans (hb.mono (by have := h1.size; omega)), hs⟩
    intro hok2
    rw [hok] at hok2
    obtain ⟨ns, hns⟩ := Option.isSome_iff_exists.mp hok2
    have e := hm2 ns hns
    subst e
    obtain ⟨a0, a1, a2, rfl⟩ : ∃ a0 a1 a2, ms = [a0, a1, a2] := by
      match ms, scanF_len _ _ _ _ hns with
      | [a0, a1, a2], _ => exact ⟨a0, a1, a2, rfl⟩
    unfold answerSt at h2
    cases h2
    have hL := blk_lt h3
    have hL2 := blk_lt h4
    refine ⟨(h1.trans (setAll_below _ _ _ (fun y hy => by have := hz y hy; omega))).trans (hb.mono (by have := h1.size; omega)), a0, a1, a2, [], v, ?_, ?_, ?_, ?_⟩
    · exact answerSt_mk x [] [a0, a1, a2] [] hns rfl
    · refine (hb.block ba hL).trans ?_
      exact (Below.heap_setCell _ _ _ _ hne).trans (blk_put (blk_put h3 0 (.int .i64 a0) rfl) 1 (.int .i64 a1) rfl)
    · refine (hb.block bc hL2).trans ?_
      exact blk_put (((Below.heap_setCell _ _ _ _ hne.symm).trans ((Below.heap_setCell _ _ _ _ hne.symm))).trans h4) 0 (.int .i64 a2) rfl
    · exact owns_keep h5 (fun k hk hl => (hb.block k hl).trans (setAll_other _ _ _ (fun y hy => by have := hz y hy; omega)))
  · rw [if_neg hp, if_neg hp]
    have hll := answerSt_len pre n d k L h2
    refine (answer2_go x hxl w0 W hG0 h1 ba B1 _ _ v L.length (L.flatMap retCells) h3 hba (by omega) hBW (by omega) h5).mono ?_
    rintro e W' ⟨v', rfl, hv, hf, hk, hl, hs⟩
    have hok : answerOk pre x = (scanF x returnW 2).isSome := by unfold answerOk lineOk; rw [if_neg hp]
    refine ⟨by rw [hok], ?_, fun k hk1 hk2 => hk k hk2 (by omega), hl, hs⟩
    intro hok2
    rw [hok] at hok2
    obtain ⟨ns, hns⟩ := Option.isSome_iff_exists.mp hok2
    have ho := hv ns hns
    obtain ⟨a0, a1, rfl⟩ : ∃ a0 a1, ns = [a0, a1] := by
      match ns, scanF_len _ _ _ _ hns with
      | [a0, a1], _ => exact ⟨a0, a1, rfl⟩
    refine ⟨hl, n, d, k, L ++ [toRet [a0, a1]], v', answerSt_snoc pre hp x n d k L _ h2 hns, hf, (hk bc (by omega) hne.symm).trans h4, ?_⟩
    rw [List.length_append, List.flatMap_append]
    exact ho
theorem results_row_tmp {P : Program} {fn : Func} {p u : Tmp} {ty : TypeId} (h : fn.results = #[.cell p ty, .tmp u]) (tmps : Array Value) (w : World) (g : Nat) (t : TypeId) (cs : Array Value) (fr : Nat × Nat) (d : TypeDesc)
    (hp : tmps.getD p undef = .pointer (some ⟨g, 0, none⟩)) (hg : w.heap[g]? = some (.cells cs t fr))
    (hu : P.underlying ty = some d) (hd : (match d with | .struct _ | .array _ _ => true | _ => false) = true) (hi : (P.info? ty).map (·.size) = some cs.size) :
    (results fn tmps).run P w = .ok (.tuple #[.agg cs, tmps.getD u undef]) w := by
  rw [results_cell_tmp h, hp]
  simp [asAddr, run_loadVar_row w g t ty cs fr d hg hu hd hi, Result.andThen]
theorem own_ret {w : World} {base : Nat} {v : Value} : ∀ (L : List S49), w.ownsRow base 49 2 v L.length (L.flatMap retCells) → Kd.R k49 49 w base (fun _ => True) v L := by
  intro L h
  refine ⟨fun _ _ => trivial, _, h, ?_⟩
  have gen : ∀ (b a : List S49), Reps (k49.M w base (fun k => True ∧ some k ≠ v.ownBlock)) 2 a (a.flatMap retCells) → Reps (k49.M w base (fun k => True ∧ some k ≠ v.ownBlock)) 2 (a ++ b) ((a ++ b).flatMap retCells) := by
    intro b
    induction b with
    | nil => intro a h; rw [List.append_nil]; exact h
    | cons x b ih =>
      intro a h
      have h2 := ih (a ++ [x]) (by rw [List.flatMap_append]; exact Reps.snoc h (k49_mkM w base _ x) rfl)
      rwa [List.append_assoc] at h2
  exact gen L [] (Reps.none _ _)
theorem lines_len (t : List UInt8) (h : t.length ≤ 4611686018427387904) : (linesOf t).length ≤ 4611686018427387904 := by
  have h1 := flatL_le (linesOf t)
  have h2 : flatL (linesOf t) = t.take (t.length - 23) ++ [10] := by unfold flatL linesOf; rw [words_flat]
  rw [h2, List.length_append, List.length_take, List.length_singleton] at h1
  omega
set_option maxHeartbeats 2000000 in
set_option maxRecDepth 100000 in
theorem readAnswer_go (t : List UInt8) (ht : t.length ≤ 4611686018427387904) (n d : Int) (L : List S49) (err : Int) (hr : answerR t = (n, d, L, err)) (w : World) (hG : GG w) :
    Calls Tryz.prog 25 #[.string (Bt t)] w fun e w' => ∃ v, e = .returned (.tuple #[.agg #[.int .i64 n, .int .i64 d, v], .int .i64 err]) ∧ Kd.R k49 49 w' w.heap.size (fun _ => True) v L ∧ Below w.heap.size w w' := by
  obtain ⟨w1, hw1⟩ : ∃ w1, w1 = w.alloc (.cells #[.int .i64 0, .int .i64 0, .slice none 0 0] 30 (0, 0)) := ⟨_, rfl⟩
  obtain ⟨w3, hw3⟩ : ∃ w3, w3 = (w1.alloc (.cells #[.int .i64 0, .int .i64 0, .slice none 0 0] 30 (0, 0))).alloc (.cells #[.int .i64 0] 3 (0, 0)) := ⟨_, rfl⟩
  have hs1 : w1.heap.size = w.heap.size + 1 := by rw [hw1]; simp
  have hs3 : w3.heap.size = w.heap.size + 3 := by rw [hw3]; simp [hs1]
  have hb1 : Below w.heap.size w w1 := by rw [hw1]; exact (Below.refl _ w).alloc (Nat.le_refl _) _
  have hb3 : Below w1.heap.size w1 w3 := by rw [hw3]; exact ((Below.refl _ w1).alloc (Nat.le_refl _) _).alloc (by simp) _
  have hr1 : w1.heap[w.heap.size]? = some (.cells #[.int .i64 0, .int .i64 0, .slice none 0 0] 30 (0, 0)) := by rw [hw1]; exact blk_new w _
  have ha3 : w3.heap[w.heap.size + 1]? = some (.cells #[.int .i64 0, .int .i64 0, .slice none 0 0] 30 (0, 0)) := by
    rw [hw3, ← hs1]
    exact blk_alloc (blk_new w1 _) _
  have hc3 : w3.heap[w.heap.size + 2]? = some (.cells #[.int .i64 0] 3 (0, 0)) := by
    have h := blk_new (w1.alloc (.cells #[.int .i64 0, .int .i64 0, .slice none 0 0] 30 (0, 0))) (.cells #[.int .i64 0] 3 (0, 0))
    rw [World.size_alloc, hs1, ← hw3] at h
    exact h
  have hG1 : GG w1 := hG.below hb1
  have hRead : Calls Tryz.prog 47 #[.string (Bt t), .func (.func 51) #[] #[.pointer (some ⟨w.heap.size + 1, 0, none⟩), .pointer (some ⟨w.heap.size + 2, 0, none⟩)], .func (.func 52) #[] #[.pointer (some ⟨w.heap.size + 1, 0, none⟩)]] w3 fun e w' =>
      e = .returned (.int .i64 (readC answerOk t)) ∧ Below w1.heap.size w1 w' ∧ (readC answerOk t = 0 → ∃ B1, w3.heap.size ≤ B1 ∧ AI w1 (w.heap.size + 1) (w.heap.size + 2) B1 (linesOf t) w') :=
    read_go 10 t ht w1 w3 hG1 hb3 _ _ _ _ (enters_of Tryz.func51 (by kernel_rfl) rfl) (enters_of Tryz.func52 (by kernel_rfl) rfl) answerOk (AI w1 (w.heap.size + 1) (w.heap.size + 2))
      (fun B1 W hB hb => ⟨hb3.trans (hb.mono (by omega)), 0, 0, 0, [], .slice none 0 0, rfl, (hb.block _ (by omega)).trans ha3, (hb.block _ (by omega)).trans hc3, ⟨rfl, .inl ⟨rfl, rfl⟩⟩⟩)
      (fun B1 pre A B h ho => AI_out (by omega) (by omega) (by omega) h ho) (fun B1 pre W h => h.1)
      (fun B1 pre x W h1 h2 h3 h4 h5 => answer_round w1 w3 hG1 (by omega) _ _ (by omega) (by omega) (by omega) (by omega) (by omega) B1 pre x W h1 h2 h3 h4 h5)
  have HRead := Lib.hid hRead
  have HR := Lib.hid hr
  have HB1 := Lib.hid hb1
  have HR1 := Lib.hid hr1
  have HS1 := Lib.hid hs1
  have HG := Lib.hid hG
  have e3 : ((w.alloc (.cells #[.int .i64 0, .int .i64 0, .slice none 0 0] 30 (0, 0))).alloc (.cells #[.int .i64 0, .int .i64 0, .slice none 0 0] 30 (0, 0))).alloc (.cells #[.int .i64 0] 3 (0, 0)) = w3 := by rw [hw3, hw1]
  have HE3 := Lib.hid e3
  have HS3 := Lib.hid hs3
  clear hRead hr hb1 hr1 hs1 hs3 hb3 ha3 hc3 hG hG1 hw3 e3 hw1
  go_enter Tryz.func25, Tryz.ntmps25
  go_wp2_with fail
  rw [HE3.out]
  refine HRead.out.mono ?_
  rintro e w5 ⟨rfl, hb5, hst⟩
  have hl1 := HS1.out
  have hr5 : w5.heap[w.heap.size]? = some (.cells #[.int .i64 0, .int .i64 0, .slice none 0 0] 30 (0, 0)) := (hb5.block _ (by omega)).trans HR1.out
  have hlow := below_then HB1.out HB1.out.size hb5
  have HLow := Lib.hid hlow
  have HST := Lib.hid hst
  have HR5 := Lib.hid hr5
  obtain ⟨c, hc⟩ : ∃ c, c = readC answerOk t := ⟨_, rfl⟩
  rw [← hc]
  by_cases h0 : c = 0
  · subst h0
    obtain ⟨B1, hB1, _, n', d', k', L', v', g2, g3, g4, g5⟩ := hst hc.symm
    have hR := own_ret L' g5
    obtain ⟨A, cc, rfl, hle, hC⟩ := Kd.R_reads hR
    have hLl := Nat.le_trans (answerSt_len _ _ _ _ _ g2) (lines_len t ht)
    obtain ⟨kk, hkk⟩ := Right_ev n' d' L' (by omega)
    have hRight : Calls Tryz.prog 28 #[.agg #[.int .i64 n', .int .i64 d', .slice A L'.length cc]] w5 fun e w' => e = .returned (.bool (rightB n' d' L')) ∧ Below w5.heap.size w5 w' := bank_Right.calls kk n' d' A cc L' _ w5 hC hle (hkk kk (Nat.le_refl _))
    have hcase : (n, d, L, err) = if rightB n' d' L' = true then (if k' = (L'.length : Int) then (n', d', L', 0) else (0, 0, [], 362)) else (0, 0, [], 362) := by
      rw [← HR.out]
      unfold answerR
      rw [if_pos hc.symm, g2]
    have HCase := Lib.hid hcase
    have HRight := Lib.hid hRight
    have HRR := Lib.hid hR
    have HG3 := Lib.hid (And.intro g3 g4)
    have a0 : w5.cell? ⟨w.heap.size + 1, 0, none⟩ = some (.int .i64 n') := bkc g3 0
    have a1 : w5.cell? ⟨w.heap.size + 1, 1, none⟩ = some (.int .i64 d') := bkc g3 1
    have a2 : w5.cell? ⟨w.heap.size + 1, 2, none⟩ = some (.slice A L'.length cc) := bkc g3 2
    obtain ⟨rb, hrb⟩ : ∃ rb, rb = rightB n' d' L' := ⟨_, rfl⟩
    rw [← hrb] at HRight HCase
    have HB1' := Lib.hid (show w.heap.size ≤ B1 by have := HS3.out; omega)
    have HCc := Lib.hid hc
    clear hc hB1 hRight hcase g2 g3 g4 g5 hR hle hC hkk hLl hrb hr5 hlow hst hb5
    go_wp2_with fail
    refine HRight.out.mono ?_
    rintro e w6 ⟨rfl, hb6⟩
    have g3 := (hb6.block _ (blk_lt HG3.out.1)).trans HG3.out.1
    have g4 := (hb6.block _ (blk_lt HG3.out.2)).trans HG3.out.2
    have g5 := (hb6.block _ (blk_lt HR5.out)).trans HR5.out
    have a0 : w6.cell? ⟨w.heap.size + 1, 0, none⟩ = some (.int .i64 n') := bkc g3 0
    have a1 : w6.cell? ⟨w.heap.size + 1, 1, none⟩ = some (.int .i64 d') := bkc g3 1
    have a2 : w6.cell? ⟨w.heap.size + 1, 2, none⟩ = some (.slice A L'.length cc) := bkc g3 2
    have a3 : w6.cell? ⟨w.heap.size + 1 + 1, 0, none⟩ = some (.int .i64 k') := bkc g4 0
    have r0 : w6.cell? ⟨w.heap.size, 0, none⟩ = some (.int .i64 0) := bkc g5 0
    have r1 : w6.cell? ⟨w.heap.size, 1, none⟩ = some (.int .i64 0) := bkc g5 1
    have r2 : w6.cell? ⟨w.heap.size, 2, none⟩ = some (.slice none 0 0) := bkc g5 2
    have f0 : w6.frozen? ⟨w.heap.size, 0, none⟩ = false := bkf g5 0
    have f1 : w6.frozen? ⟨w.heap.size, 1, none⟩ = false := bkf g5 1
    have f2 : w6.frozen? ⟨w.heap.size, 2, none⟩ = false := bkf g5 2
    have HLow6 := Lib.hid (below_then HLow.out HLow.out.size hb6)
    have HRR6 := Lib.hid (Kd.R_below HRR.out hb6)
    have HG5 := Lib.hid g5
    clear g3 g4 g5 hb6 HRight HG3 HRR
    cases rb with
    | false =>
      go_wp2_with fail
      obtain ⟨rfl, rfl, rfl, rfl⟩ : n = 0 ∧ d = 0 ∧ L = [] ∧ err = 362 := by simpa using HCase.out
      refine bodyPost_ret (results_row_tmp rfl _ _ w.heap.size _ #[.int .i64 0, .int .i64 0, .slice none 0 0] (0, 0) _ rfl (blk_put (blk_put (blk_put HG5.out 0 _ rfl) 1 _ rfl) 2 _ rfl) Tryz.underlying30 rfl (by kernel_rfl)) rfl ?_
      exact ⟨.slice none 0 0, rfl, Kd.R_nil _ _ _ _ _, ((HLow6.out.setCell (p := ⟨w.heap.size, 0, none⟩) (Nat.le_refl _) _).setCell (p := ⟨w.heap.size, 1, none⟩) (Nat.le_refl _) _).setCell (p := ⟨w.heap.size, 2, none⟩) (Nat.le_refl _) _⟩
    | true =>
      by_cases hk : k' = (L'.length : Int)
      · go_wp2_with fail
        have hcs := HCase.out
        rw [if_pos trivial, if_pos hk] at hcs
        obtain ⟨rfl, rfl, rfl, rfl⟩ : n = n' ∧ d = d' ∧ L = L' ∧ err = 0 := by simpa using hcs
        refine bodyPost_ret (results_row_tmp rfl _ _ w.heap.size _ #[.int .i64 n, .int .i64 d, .slice A L.length cc] (0, 0) _ rfl (blk_put (blk_put (blk_put HG5.out 0 _ rfl) 1 _ rfl) 2 _ rfl) Tryz.underlying30 rfl (by kernel_rfl)) rfl ?_
        have hq : ∀ q, q ∈ 49 :: k49.E → q ≠ 30 := by decide
        refine ⟨.slice A L.length cc, rfl, Kd.R_lower (Kd.R_set (Kd.R_set (Kd.R_set HRR6.out HG5.out hq 0 _) (blk_put HG5.out 0 _ rfl) hq 1 _) (blk_put (blk_put HG5.out 0 _ rfl) 1 _ rfl) hq 2 _) HB1'.out, ((HLow6.out.setCell (p := ⟨w.heap.size, 0, none⟩) (Nat.le_refl _) _).setCell (p := ⟨w.heap.size, 1, none⟩) (Nat.le_refl _) _).setCell (p := ⟨w.heap.size, 2, none⟩) (Nat.le_refl _) _⟩
      · have hkb : (k' != (L'.length : Int)) = true := by simpa using hk
        go_wp2_with fail
        have hcs := HCase.out
        rw [if_pos trivial, if_neg hk] at hcs
        obtain ⟨rfl, rfl, rfl, rfl⟩ : n = 0 ∧ d = 0 ∧ L = [] ∧ err = 362 := by simpa using hcs
        refine bodyPost_ret (results_row_tmp rfl _ _ w.heap.size _ #[.int .i64 0, .int .i64 0, .slice none 0 0] (0, 0) _ rfl (blk_put (blk_put (blk_put HG5.out 0 _ rfl) 1 _ rfl) 2 _ rfl) Tryz.underlying30 rfl (by kernel_rfl)) rfl ?_
        exact ⟨.slice none 0 0, rfl, Kd.R_nil _ _ _ _ _, ((HLow6.out.setCell (p := ⟨w.heap.size, 0, none⟩) (Nat.le_refl _) _).setCell (p := ⟨w.heap.size, 1, none⟩) (Nat.le_refl _) _).setCell (p := ⟨w.heap.size, 2, none⟩) (Nat.le_refl _) _⟩
  · have hcase : (n, d, L, err) = (0, 0, [], c) := by
      rw [← HR.out]
      unfold answerR
      rw [if_neg (by rw [← hc]; exact h0), ← hc]
    obtain ⟨rfl, rfl, rfl, rfl⟩ : n = 0 ∧ d = 0 ∧ L = [] ∧ err = c := by simpa using hcase
    have r0 : w5.cell? ⟨w.heap.size, 0, none⟩ = some (.int .i64 0) := bkc hr5 0
    have r1 : w5.cell? ⟨w.heap.size, 1, none⟩ = some (.int .i64 0) := bkc hr5 1
    have r2 : w5.cell? ⟨w.heap.size, 2, none⟩ = some (.slice none 0 0) := bkc hr5 2
    have f0 : w5.frozen? ⟨w.heap.size, 0, none⟩ = false := bkf hr5 0
    have f1 : w5.frozen? ⟨w.heap.size, 1, none⟩ = false := bkf hr5 1
    have f2 : w5.frozen? ⟨w.heap.size, 2, none⟩ = false := bkf hr5 2
    clear hcase hc hst hlow hr5 hb5
    go_wp2_with fail
    refine bodyPost_ret (results_row_tmp rfl _ _ w.heap.size _ #[.int .i64 0, .int .i64 0, .slice none 0 0] (0, 0) _ rfl (blk_put (blk_put (blk_put HR5.out 0 _ rfl) 1 _ rfl) 2 _ rfl) Tryz.underlying30 rfl (by kernel_rfl)) rfl ?_
    exact ⟨.slice none 0 0, rfl, Kd.R_nil _ _ _ _ _, ((HLow.out.setCell (p := ⟨w.heap.size, 0, none⟩) (Nat.le_refl _) _).setCell (p := ⟨w.heap.size, 1, none⟩) (Nat.le_refl _) _).setCell (p := ⟨w.heap.size, 2, none⟩) (Nat.le_refl _) _⟩
def bank_ReadAnswer.f (k : Nat) (a0 : ByteArray) : Option (Int × Int × (List (S49)) × Int) := if a0.size ≤ 4611686018427387904 then some (answerR a0.data.toList) else none
theorem Bt_of (s : ByteArray) : Bt s.data.toList = s := by
  unfold Bt
  cases s
  simp
theorem bank_ReadAnswer.calls (k : Nat) (a0 : ByteArray) (r1 : Int) (r2 : Int) (r3 : List (S49)) (r4 : Int) (w : World) (hG : GG w) (h : bank_ReadAnswer.f k a0 = some (r1, r2, r3, r4)) :
    Calls Tryz.prog 25 #[.string a0] w fun e w' => ∃ v2_ : Value, e = .returned (.tuple #[.agg #[.int .i64 r1, .int .i64 r2, v2_], .int .i64 r4]) ∧ Kd.R k49 49 w' w.heap.size (fun _ => True) v2_ r3 ∧ Below w.heap.size w w' := by
  unfold bank_ReadAnswer.f at h
  split at h
  · rename_i hs
    have h2 := readAnswer_go a0.data.toList hs r1 r2 r3 r4 (Option.some.inj h) w hG
    rwa [Bt_of] at h2
  · cases h
end
section
def toOrd (r : List Int) : S47 := ⟨r.getD 0 0, r.getD 1 0, r.getD 2 0, r.getD 3 0, r.getD 4 0⟩
def ordCells (o : S47) : List Value := [.int .i64 o.f0, .int .i64 o.f1, .int .i64 o.f2, .int .i64 o.f3, .int .i64 o.f4]
def fileSt : List (List UInt8) → Option (Int × Int × Int × Int × List S47)
  | [] => some (0, 0, 0, 0, [])
  | l :: ls => match scanF l payL 4, scansF orderW 5 ls with | some h, some rs => some (h.getD 0 0, h.getD 1 0, h.getD 2 0, h.getD 3 0, rs.map toOrd) | _, _ => none
abbrev fileOk := lineOk payL 4 orderW 5
def fileR (t : List UInt8) : Int × Int × List S47 × Int :=
  if readC fileOk t = 0 then
    match fileSt (linesOf t) with
    | some (n, d, k, s, L) => if validB n d L = true then (if k = (L.length : Int) then (if s = netSum L then (n, d, L, 0) else (0, 0, [], 362)) else (0, 0, [], 362)) else (0, 0, [], 362)
    | none => (0, 0, [], 0)
  else (0, 0, [], readC fileOk t)
theorem fileSt_some (l : List UInt8) (ls : List (List UInt8)) (n d k s : Int) (L : List S47) (h : fileSt (l :: ls) = some (n, d, k, s, L)) : ∃ a rs, scanF l payL 4 = some a ∧ scansF orderW 5 ls = some rs ∧ n = a.getD 0 0 ∧ d = a.getD 1 0 ∧ k = a.getD 2 0 ∧ s = a.getD 3 0 ∧ L = rs.map toOrd := by
  have h : (match scanF l payL 4, scansF orderW 5 ls with | some h, some rs => some (h.getD 0 0, h.getD 1 0, h.getD 2 0, h.getD 3 0, rs.map toOrd) | _, _ => none) = some (n, d, k, s, L) := h
  cases h1 : scanF l payL 4 with
  | none => rw [h1] at h; cases h
  | some a =>
    cases h2 : scansF orderW 5 ls with
    | none => rw [h1, h2] at h; cases h
    | some rs =>
      rw [h1, h2] at h
      cases h
      exact ⟨a, rs, rfl, rfl, rfl, rfl, rfl, rfl, rfl⟩
theorem fileSt_mk (l : List UInt8) (ls : List (List UInt8)) (a : List Int) (rs : List (List Int)) (h1 : scanF l payL 4 = some a) (h2 : scansF orderW 5 ls = some rs) : fileSt (l :: ls) = some (a.getD 0 0, a.getD 1 0, a.getD 2 0, a.getD 3 0, rs.map toOrd) := by
  show (match scanF l payL 4, scansF orderW 5 ls with | some h, some rs => some (h.getD 0 0, h.getD 1 0, h.getD 2 0, h.getD 3 0, rs.map toOrd) | _, _ => none) = _
  rw [h1, h2]
theorem fileSt_snoc (pre : List (List UInt8)) (hp : pre ≠ []) (x : List UInt8) (n d k s : Int) (L : List S47) (r : List Int) (h : fileSt pre = some (n, d, k, s, L)) (hx : scanF x orderW 5 = some r) : fileSt (pre ++ [x]) = some (n, d, k, s, L ++ [toOrd r]) := by
  cases pre with
  | nil => exact absurd rfl hp
  | cons l ls =>
    obtain ⟨a, rs, h1, h2, rfl, rfl, rfl, rfl, rfl⟩ := fileSt_some l ls n d k s L h
    rw [List.cons_append, fileSt_mk l (ls ++ [x]) a (rs ++ [r]) h1 (by rw [scansF_snoc, h2, hx])]
    simp
theorem fileSt_len (pre : List (List UInt8)) (n d k s : Int) (L : List S47) (h : fileSt pre = some (n, d, k, s, L)) : L.length ≤ pre.length := by
  cases pre with
  | nil => unfold fileSt at h; cases h; exact Nat.le_refl _
  | cons l ls =>
    obtain ⟨a, rs, h1, h2, rfl, rfl, rfl, rfl, rfl⟩ := fileSt_some l ls n d k s L h
    have := scansF_len orderW 5 ls rs h2
    rw [List.length_map, List.length_cons]
    omega
def FI (w0 : World) (ba bc bs B1 : Nat) (pre : List (List UInt8)) (W : World) : Prop :=
  Below w0.heap.size w0 W ∧ ∃ n d k s L v, fileSt pre = some (n, d, k, s, L) ∧ W.heap[ba]? = some (.cells #[.int .i64 n, .int .i64 d, v] 27 (0, 0)) ∧ W.heap[bc]? = some (.cells #[.int .i64 k] 3 (0, 0)) ∧ W.heap[bs]? = some (.cells #[.int .i64 s] 3 (0, 0)) ∧ W.ownsRow B1 47 5 v L.length (L.flatMap ordCells)
theorem FI_out {w0 w : World} {ba bc bs B1 : Nat} {pre : List (List UInt8)} {A B : World} (h0 : w0.heap.size ≤ w.heap.size) (ha : ba < w.heap.size) (hc : bc < w.heap.size) (hs : bs < w.heap.size) (h : FI w0 ba bc bs B1 pre A) (ho : OutN w.heap.size B1 A B) : FI w0 ba bc bs B1 pre B := by
  obtain ⟨h1, n, d, k, s, L, v, h2, h3, h4, h6, h5⟩ := h
  refine ⟨h1.trans ⟨ho.os, ho.tape, ho.output, ho.size, fun k hk => ho.same k (by have := h1.size; omega) (by omega)⟩, n, d, k, s, L, v, h2, (ho.same _ (blk_lt h3) (.inl ha)).trans h3, (ho.same _ (blk_lt h4) (.inl hc)).trans h4, (ho.same _ (blk_lt h6) (.inl hs)).trans h6, owns_keep h5 (fun k hk hl => ho.same k hl (.inr hk))⟩
theorem file_round (w0 w : World) (hG0 : GG w0) (h0 : w0.heap.size ≤ w.heap.size) (ba bc bs : Nat) (hba : w0.heap.size ≤ ba) (hbc : w0.heap.size ≤ bc) (hbs : w0.heap.size ≤ bs) (hba2 : ba < w.heap.size) (hbc2 : bc < w.heap.size) (hbs2 : bs < w.heap.size) (hne : ba ≠ bc) (hne2 : ba ≠ bs) (hne3 : bc ≠ bs) (B1 : Nat) (pre : List (List UInt8)) (x : List UInt8) (W : World)
    (hB : w.heap.size ≤ B1) (hBW : B1 ≤ W.heap.size) (hpl : pre.length ≤ 1048576) (hxl : x.length ≤ 1048576) (h : FI w0 ba bc bs B1 pre W) :
    Calls Tryz.prog (if pre = [] then 48 else 50) (#[.string (Bt x)] ++ (if pre = [] then #[.pointer (some ⟨ba, 0, none⟩), .pointer (some ⟨bc, 0, none⟩), .pointer (some ⟨bs, 0, none⟩)] else #[.pointer (some ⟨ba, 0, none⟩)])) W fun e W' =>
      e = .returned (.bool (fileOk pre x)) ∧ (fileOk pre x = true → FI w0 ba bc bs B1 (pre ++ [x]) W') ∧ (∀ k, w.heap.size ≤ k → k < B1 → W'.heap[k]? = W.heap[k]?) ∧ Below w0.heap.size w0 W' ∧ W.heap.size ≤ W'.heap.size := by
  obtain ⟨h1, n, d, k, s, L, v, h2, h3, h4, h6, h5⟩ := h
  by_cases hp : pre = []
  · subst hp
    rw [if_pos rfl, if_pos rfl]
    refine (read1_go x hxl w0 W hG0 h1 ba bc bs _ _ _ _ _ _ h3 h4 h6 (by show 1 < 3; omega) (by show 0 < 1; omega) (by show 0 < 1; omega) hba hbc hbs).mono ?_
    rintro e W' ⟨ms, rfl, hm1, hm2, hb⟩
    have hok : fileOk [] x = (scanF x payL 4).isSome := by unfold fileOk lineOk; rw [if_pos rfl]
    have hz : ∀ y ∈ [(ba, 0), (ba, 1), (bc, 0), (bs, 0)].zip ms, y.1.1 = ba ∨ y.1.1 = bc ∨ y.1.1 = bs := by
      intro y hy
      have hy := (List.of_mem_zip hy).1
      simp only [List.mem_cons, List.not_mem_nil, or_false] at hy
      rcases hy with e | e | e | e <;> rw [e] <;> simp
    have hs : W.heap.size ≤ W'.heap.size := by have := hb.size; rwa [setAll_size] at this
    refine ⟨by rw [hok], ?_, fun k hk hk2 => (hb.block k (by omega)).trans (setAll_other _ _ _ (fun y hy => by have := hz y hy; omega)), (h1.trans (setAll_below _ _ _ (fun y hy => by have := hz y hy; omega))).trans (hb.mono (by have := h1.size; omega)), hs⟩
    intro hok2
    rw [hok] at hok2
    obtain ⟨ns, hns⟩ := Option.isSome_iff_exists.mp hok2
    have e := hm2 ns hns
    subst e
    obtain ⟨a0, a1, a2, a3, rfl⟩ : ∃ a0 a1 a2 a3, ms = [a0, a1, a2, a3] := by
      match ms, scanF_len _ _ _ _ hns with
      | [a0, a1, a2, a3], _ => exact ⟨a0, a1, a2, a3, rfl⟩
    unfold fileSt at h2
    cases h2
    have hL := blk_lt h3
    have hL2 := blk_lt h4
    have hL3 := blk_lt h6
    refine ⟨(h1.trans (setAll_below _ _ _ (fun y hy => by have := hz y hy; omega))).trans (hb.mono (by have := h1.size; omega)), a0, a1, a2, a3, [], v, ?_, ?_, ?_, ?_, ?_⟩
    · exact fileSt_mk x [] [a0, a1, a2, a3] [] hns rfl
    · refine (hb.block ba hL).trans ?_
      exact (Below.heap_setCell _ _ _ _ hne2).trans ((Below.heap_setCell _ _ _ _ hne).trans (blk_put (blk_put h3 0 (.int .i64 a0) rfl) 1 (.int .i64 a1) rfl))
    · refine (hb.block bc hL2).trans ?_
      exact (Below.heap_setCell _ _ _ _ hne3).trans (blk_put (((Below.heap_setCell _ _ _ _ hne.symm).trans ((Below.heap_setCell _ _ _ _ hne.symm))).trans h4) 0 (.int .i64 a2) rfl)
    · refine (hb.block bs hL3).trans ?_
      exact blk_put (((Below.heap_setCell _ _ _ _ hne3.symm).trans ((Below.heap_setCell _ _ _ _ hne2.symm).trans (Below.heap_setCell _ _ _ _ hne2.symm))).trans h6) 0 (.int .i64 a3) rfl
    · exact owns_keep h5 (fun k hk hl => (hb.block k hl).trans (setAll_other _ _ _ (fun y hy => by have := hz y hy; omega)))
  · rw [if_neg hp, if_neg hp]
    have hll := fileSt_len pre n d k s L h2
    refine (read2_go x hxl w0 W hG0 h1 ba B1 _ _ v L.length (L.flatMap ordCells) h3 hba (by omega) hBW (by omega) h5).mono ?_
    rintro e W' ⟨v', rfl, hv, hf, hk, hl, hs⟩
    have hok : fileOk pre x = (scanF x orderW 5).isSome := by unfold fileOk lineOk; rw [if_neg hp]
    refine ⟨by rw [hok], ?_, fun k hk1 hk2 => hk k hk2 (by omega), hl, hs⟩
    intro hok2
    rw [hok] at hok2
    obtain ⟨ns, hns⟩ := Option.isSome_iff_exists.mp hok2
    have ho := hv ns hns
    obtain ⟨a0, a1, a2, a3, a4, rfl⟩ : ∃ a0 a1 a2 a3 a4, ns = [a0, a1, a2, a3, a4] := by
      match ns, scanF_len _ _ _ _ hns with
      | [a0, a1, a2, a3, a4], _ => exact ⟨a0, a1, a2, a3, a4, rfl⟩
    refine ⟨hl, n, d, k, s, L ++ [toOrd [a0, a1, a2, a3, a4]], v', fileSt_snoc pre hp x n d k s L _ h2 hns, hf, (hk bc (by omega) hne.symm).trans h4, (hk bs (by omega) hne2.symm).trans h6, ?_⟩
    rw [List.length_append, List.flatMap_append]
    exact ho
theorem own_ord {w : World} {base : Nat} {v : Value} : ∀ (L : List S47), w.ownsRow base 47 5 v L.length (L.flatMap ordCells) → Kd.R k47 47 w base (fun _ => True) v L := by
  intro L h
  refine ⟨fun _ _ => trivial, _, h, ?_⟩
  have gen : ∀ (b a : List S47), Reps (k47.M w base (fun k => True ∧ some k ≠ v.ownBlock)) 5 a (a.flatMap ordCells) → Reps (k47.M w base (fun k => True ∧ some k ≠ v.ownBlock)) 5 (a ++ b) ((a ++ b).flatMap ordCells) := by
    intro b
    induction b with
    | nil => intro a h; rw [List.append_nil]; exact h
    | cons x b ih =>
      intro a h
      have h2 := ih (a ++ [x]) (by rw [List.flatMap_append]; exact Reps.snoc h (k47_mkM w base _ x) rfl)
      rwa [List.append_assoc] at h2
  exact gen L [] (Reps.none _ _)
set_option maxHeartbeats 2000000 in
set_option maxRecDepth 100000 in
theorem readFile_go (t : List UInt8) (ht : t.length ≤ 4611686018427387904) (n d : Int) (L : List S47) (err : Int) (hr : fileR t = (n, d, L, err)) (w : World) (hG : GG w) :
    Calls Tryz.prog 24 #[.string (Bt t)] w fun e w' => ∃ v, e = .returned (.tuple #[.agg #[.int .i64 n, .int .i64 d, v], .int .i64 err]) ∧ Kd.R k47 47 w' w.heap.size (fun _ => True) v L ∧ Below w.heap.size w w' := by
  obtain ⟨w1, hw1⟩ : ∃ w1, w1 = w.alloc (.cells #[.int .i64 0, .int .i64 0, .slice none 0 0] 27 (0, 0)) := ⟨_, rfl⟩
  obtain ⟨w2, hw2⟩ : ∃ w2, w2 = (w1.alloc (.cells #[.int .i64 0, .int .i64 0, .slice none 0 0] 27 (0, 0))).alloc (.cells #[.int .i64 0] 3 (0, 0)) := ⟨_, rfl⟩
  obtain ⟨w3, hw3⟩ : ∃ w3, w3 = w2.alloc (.cells #[.int .i64 0] 3 (0, 0)) := ⟨_, rfl⟩
  have hs1 : w1.heap.size = w.heap.size + 1 := by rw [hw1]; simp
  have hs2 : w2.heap.size = w.heap.size + 3 := by rw [hw2]; simp [hs1]
  have hs3 : w3.heap.size = w.heap.size + 4 := by rw [hw3]; simp [hs2]
  have hb1 : Below w.heap.size w w1 := by rw [hw1]; exact (Below.refl _ w).alloc (Nat.le_refl _) _
  have hb3 : Below w1.heap.size w1 w3 := by rw [hw3, hw2]; exact (((Below.refl _ w1).alloc (Nat.le_refl _) _).alloc (by simp) _).alloc (by simp; omega) _
  have hr1 : w1.heap[w.heap.size]? = some (.cells #[.int .i64 0, .int .i64 0, .slice none 0 0] 27 (0, 0)) := by rw [hw1]; exact blk_new w _
  have ha3 : w3.heap[w.heap.size + 1]? = some (.cells #[.int .i64 0, .int .i64 0, .slice none 0 0] 27 (0, 0)) := by
    rw [hw3, hw2, ← hs1]
    exact blk_alloc (blk_alloc (blk_new w1 _) _) _
  have hc3 : w3.heap[w.heap.size + 2]? = some (.cells #[.int .i64 0] 3 (0, 0)) := by
    have h := blk_new (w1.alloc (.cells #[.int .i64 0, .int .i64 0, .slice none 0 0] 27 (0, 0))) (.cells #[.int .i64 0] 3 (0, 0))
    rw [World.size_alloc, hs1, ← hw2] at h
    rw [hw3]
    exact blk_alloc h _
  have hd3 : w3.heap[w.heap.size + 3]? = some (.cells #[.int .i64 0] 3 (0, 0)) := by
    have h := blk_new w2 (.cells #[.int .i64 0] 3 (0, 0))
    rw [hs2, ← hw3] at h
    exact h
  have hG1 : GG w1 := hG.below hb1
  have hRead : Calls Tryz.prog 47 #[.string (Bt t), .func (.func 48) #[] #[.pointer (some ⟨w.heap.size + 1, 0, none⟩), .pointer (some ⟨w.heap.size + 2, 0, none⟩), .pointer (some ⟨w.heap.size + 3, 0, none⟩)], .func (.func 50) #[] #[.pointer (some ⟨w.heap.size + 1, 0, none⟩)]] w3 fun e w' =>
      e = .returned (.int .i64 (readC fileOk t)) ∧ Below w1.heap.size w1 w' ∧ (readC fileOk t = 0 → ∃ B1, w3.heap.size ≤ B1 ∧ FI w1 (w.heap.size + 1) (w.heap.size + 2) (w.heap.size + 3) B1 (linesOf t) w') :=
    read_go 10 t ht w1 w3 hG1 hb3 _ _ _ _ (enters_of Tryz.func48 (by kernel_rfl) rfl) (enters_of Tryz.func50 (by kernel_rfl) rfl) fileOk (FI w1 (w.heap.size + 1) (w.heap.size + 2) (w.heap.size + 3))
      (fun B1 W hB hb => ⟨hb3.trans (hb.mono (by omega)), 0, 0, 0, 0, [], .slice none 0 0, rfl, (hb.block _ (by omega)).trans ha3, (hb.block _ (by omega)).trans hc3, (hb.block _ (by omega)).trans hd3, ⟨rfl, .inl ⟨rfl, rfl⟩⟩⟩)
      (fun B1 pre A B h ho => FI_out (by omega) (by omega) (by omega) (by omega) h ho) (fun B1 pre W h => h.1)
      (fun B1 pre x W h1 h2 h3 h4 h5 => file_round w1 w3 hG1 (by omega) _ _ _ (by omega) (by omega) (by omega) (by omega) (by omega) (by omega) (by omega) (by omega) (by omega) B1 pre x W h1 h2 h3 h4 h5)
  have HRead := Lib.hid hRead
  have HR := Lib.hid hr
  have HB1 := Lib.hid hb1
  have HR1 := Lib.hid hr1
  have HS1 := Lib.hid hs1
  have HG := Lib.hid hG
  have e3 : (((w.alloc (.cells #[.int .i64 0, .int .i64 0, .slice none 0 0] 27 (0, 0))).alloc (.cells #[.int .i64 0, .int .i64 0, .slice none 0 0] 27 (0, 0))).alloc (.cells #[.int .i64 0] 3 (0, 0))).alloc (.cells #[.int .i64 0] 3 (0, 0)) = w3 := by rw [hw3, hw2, hw1]
  have HE3 := Lib.hid e3
  have HS3 := Lib.hid hs3
  clear hRead hr hb1 hr1 hs1 hs2 hs3 hb3 ha3 hc3 hd3 hG hG1 hw3 e3 hw2 hw1
  go_enter Tryz.func24, Tryz.ntmps24
  go_wp2_with fail
  rw [HE3.out]
  refine HRead.out.mono ?_
  rintro e w5 ⟨rfl, hb5, hst⟩
  have hl1 := HS1.out
  have hr5 : w5.heap[w.heap.size]? = some (.cells #[.int .i64 0, .int .i64 0, .slice none 0 0] 27 (0, 0)) := (hb5.block _ (by omega)).trans HR1.out
  have hlow := below_then HB1.out HB1.out.size hb5
  have HLow := Lib.hid hlow
  have HST := Lib.hid hst
  have HR5 := Lib.hid hr5
  obtain ⟨c, hc⟩ : ∃ c, c = readC fileOk t := ⟨_, rfl⟩
  rw [← hc]
  by_cases h0 : c = 0
  · subst h0
    obtain ⟨B1, hB1, _, n', d', k', s', L', v', g2, g3, g4, g6, g5⟩ := hst hc.symm
    have hR := own_ord L' g5
    obtain ⟨A, cc, rfl, hle, hC⟩ := Kd.R_reads hR
    have hLl := Nat.le_trans (fileSt_len _ _ _ _ _ _ g2) (lines_len t ht)
    obtain ⟨kk, hkk⟩ := Valid_ev n' d' L' (by omega)
    have hVal : ∀ W', Below w5.heap.size w5 W' → Calls Tryz.prog 22 #[.agg #[.int .i64 n', .int .i64 d', .slice A L'.length cc]] W' fun e w' => e = .returned (.bool (validB n' d' L')) ∧ Below w5.heap.size w5 w' := fun W' hb => by
      refine (bank_Valid.calls kk n' d' A cc L' _ W' (Kd.C_below hC hb) hle (hkk kk (Nat.le_refl _))).mono ?_
      rintro e w' ⟨rfl, hb2⟩
      exact ⟨rfl, below_then hb hb.size hb2⟩
    have hTot : validB n' d' L' = true → ∀ W', Below w5.heap.size w5 W' → Calls Tryz.prog 46 #[.agg #[.int .i64 n', .int .i64 d', .slice A L'.length cc]] W' fun e w' => e = .returned (.int .i64 (netSum L')) ∧ Below w5.heap.size w5 w' := fun hv W' hb => by
      obtain ⟨k2, hk2⟩ := (total_ev n' d' L' hv).1
      refine (bank_total.calls k2 n' d' A cc L' _ W' (Kd.C_below hC hb) hle (hk2 k2 (Nat.le_refl _))).mono ?_
      rintro e w' ⟨rfl, hb2⟩
      exact ⟨rfl, below_then hb hb.size hb2⟩
    have hcase : (n, d, L, err) = if validB n' d' L' = true then (if k' = (L'.length : Int) then (if s' = netSum L' then (n', d', L', 0) else (0, 0, [], 362)) else (0, 0, [], 362)) else (0, 0, [], 362) := by
      rw [← HR.out]
      unfold fileR
      rw [if_pos hc.symm, g2]
    have hSS : ∀ W', Below w5.heap.size w5 W' → (W'.cell? ⟨w.heap.size + 1, 0, none⟩ = some (.int .i64 n') ∧ W'.cell? ⟨w.heap.size + 1, 1, none⟩ = some (.int .i64 d') ∧ W'.cell? ⟨w.heap.size + 1, 2, none⟩ = some (.slice A L'.length cc) ∧ W'.cell? ⟨w.heap.size + 1 + 1, 0, none⟩ = some (.int .i64 k') ∧ W'.cell? ⟨w.heap.size + 1 + 1 + 1, 0, none⟩ = some (.int .i64 s')) := fun W' hb => by
      have q3 := (hb.block _ (blk_lt g3)).trans g3
      have q4 := (hb.block _ (blk_lt g4)).trans g4
      have q6 := (hb.block _ (blk_lt g6)).trans g6
      exact ⟨bkc q3 0, bkc q3 1, bkc q3 2, bkc q4 0, bkc q6 0⟩
    have HSS := Lib.hid hSS
    have HCase := Lib.hid hcase
    have HVal := Lib.hid hVal
    have HTot := Lib.hid hTot
    have HRR := Lib.hid hR
    have HB1' := Lib.hid (show w.heap.size ≤ B1 by have := HS3.out; omega)
    have HCc := Lib.hid hc
    have HK1 := Lib.hid (below_drew (Below.refl w5.heap.size w5))
    obtain ⟨rb, hrb⟩ : ∃ rb, rb = validB n' d' L' := ⟨_, rfl⟩
    rw [← hrb] at HVal HTot HCase
    clear hc hB1 hVal hTot hcase hSS g2 g3 g4 g5 g6 hR hle hC hkk hLl hrb hr5 hlow hst hb5
    cases rb with
    | false =>
      go_wp2_with fail
      refine start_ (n := 17) (S := fun w' => w'.cell? ⟨w.heap.size + 1, 0, none⟩ = some (.int .i64 n') ∧ w'.cell? ⟨w.heap.size + 1, 1, none⟩ = some (.int .i64 d') ∧ w'.cell? ⟨w.heap.size + 1, 2, none⟩ = some (.slice A L'.length cc) ∧ w'.cell? ⟨w.heap.size + 1 + 1, 0, none⟩ = some (.int .i64 k') ∧ w'.cell? ⟨w.heap.size + 1 + 1 + 1, 0, none⟩ = some (.int .i64 s')) (ds := []) (zo 17) (by kernel_rfl) rfl rfl (HSS.out _ HK1.out) (fun hHeld => ?_)
      refine zt5 0 18 (zm 17 1) hHeld ?_
      refine one_ (i := 1) (N := some 19) (zm 17 3) rfl rfl (by kernel_rfl) (by decide) (fun K hK => ?_)
      refine goes_ Tryz.func22 (by kernel_rfl) rfl #[.agg #[.int .i64 n', .int .i64 d', .slice A L'.length cc]] (by rfl) rfl rfl (by (try simp only [List.map_toArray, List.map_cons, List.map_nil]); first | done | rfl) ?_
      refine (HVal.out _ HK1.out).mono ?_
      rintro e w2 ⟨rfl, hb⟩
      refine ⟨_, rfl, ?_⟩
      have HK2 := Lib.hid hb
      clear hb
      refine hK.out _ _ (HSS.out _ HK2.out) (fun hHeld => ?_)
      clear hK K
      refine norm_ (a' := ?_) ?_ ?_
      rotate_left
      ·
       show Act.put _ (some 19) _ = _
       simp only [Act.put, List.setIfInBounds_toArray, List.set_cons_zero, List.set_cons_succ]
       rfl
      refine zr 2 20 (zm 17 7) ?_
      refine zr 3 21 (zm 17 15) ?_
      refine zro 4 22 (zm 17 31) ?_
      refine zro 5 23 (zm 17 63) ?_
      refine zro 6 24 (zm 17 127) ?_
      refine zro 7 25 (zm 17 255) ?_
      refine zro 8 26 (zm 17 511) ?_
      refine zr 9 27 (zm 17 1023) ?_
      refine zr 10 28 (zm 17 2047) ?_
      refine zro 11 29 (zm 17 4095) ?_
      refine zro 12 30 (zm 17 8191) ?_
      refine zro 13 31 (zm 17 16383) ?_
      refine zro 14 32 (zm 17 32767) ?_
      refine zr 15 33 (zm 17 65535) ?_
      refine zr 16 17 (zm 17 131071) ?_
      refine done_ (by kernel_rfl) ?_
      have g5 := (HK2.out.block _ (blk_lt HR5.out)).trans HR5.out
      have r0 : w2.cell? ⟨w.heap.size, 0, none⟩ = some (.int .i64 0) := bkc g5 0
      have r1 : w2.cell? ⟨w.heap.size, 1, none⟩ = some (.int .i64 0) := bkc g5 1
      have r2 : w2.cell? ⟨w.heap.size, 2, none⟩ = some (.slice none 0 0) := bkc g5 2
      have f0 : w2.frozen? ⟨w.heap.size, 0, none⟩ = false := bkf g5 0
      have f1 : w2.frozen? ⟨w.heap.size, 1, none⟩ = false := bkf g5 1
      have f2 : w2.frozen? ⟨w.heap.size, 2, none⟩ = false := bkf g5 2
      obtain ⟨a0, a1, a2, a3, a4⟩ := HSS.out _ HK2.out
      have HLow6 := Lib.hid (below_then HLow.out HLow.out.size HK2.out)
      have HRR6 := Lib.hid (Kd.R_below HRR.out HK2.out)
      have HG5 := Lib.hid g5
      clear g5 hHeld
      go_wp2_with fail
      have hcs := HCase.out
      obtain ⟨rfl, rfl, rfl, rfl⟩ : n = 0 ∧ d = 0 ∧ L = [] ∧ err = 362 := by simpa using hcs
      refine bodyPost_ret (results_row_tmp rfl _ _ w.heap.size _ #[.int .i64 0, .int .i64 0, .slice none 0 0] (0, 0) _ rfl (blk_put (blk_put (blk_put HG5.out 0 _ rfl) 1 _ rfl) 2 _ rfl) Tryz.underlying27 rfl (by kernel_rfl)) rfl ?_
      exact ⟨.slice none 0 0, rfl, Kd.R_nil _ _ _ _ _, ((HLow6.out.setCell (p := ⟨w.heap.size, 0, none⟩) (Nat.le_refl _) _).setCell (p := ⟨w.heap.size, 1, none⟩) (Nat.le_refl _) _).setCell (p := ⟨w.heap.size, 2, none⟩) (Nat.le_refl _) _⟩
    | true =>
      by_cases hk : k' = (L'.length : Int)
      · subst hk
        by_cases hs : s' = netSum L'
        · subst hs
          go_wp2_with fail
          refine start_ (n := 17) (S := fun w' => w'.cell? ⟨w.heap.size + 1, 0, none⟩ = some (.int .i64 n') ∧ w'.cell? ⟨w.heap.size + 1, 1, none⟩ = some (.int .i64 d') ∧ w'.cell? ⟨w.heap.size + 1, 2, none⟩ = some (.slice A L'.length cc) ∧ w'.cell? ⟨w.heap.size + 1 + 1, 0, none⟩ = some (.int .i64 L'.length) ∧ w'.cell? ⟨w.heap.size + 1 + 1 + 1, 0, none⟩ = some (.int .i64 (netSum L'))) (ds := []) (zo 17) (by kernel_rfl) rfl rfl (HSS.out _ HK1.out) (fun hHeld => ?_)
          refine zt5 0 18 (zm 17 1) hHeld ?_
          refine one_ (i := 1) (N := some 19) (zm 17 3) rfl rfl (by kernel_rfl) (by decide) (fun K hK => ?_)
          refine goes_ Tryz.func22 (by kernel_rfl) rfl #[.agg #[.int .i64 n', .int .i64 d', .slice A L'.length cc]] (by rfl) rfl rfl (by (try simp only [List.map_toArray, List.map_cons, List.map_nil]); first | done | rfl) ?_
          refine (HVal.out _ HK1.out).mono ?_
          rintro e w2 ⟨rfl, hb⟩
          refine ⟨_, rfl, ?_⟩
          have HK2 := Lib.hid hb
          clear hb
          refine hK.out _ _ (HSS.out _ HK2.out) (fun hHeld => ?_)
          clear hK K
          refine norm_ (a' := ?_) ?_ ?_
          rotate_left
          ·
           show Act.put _ (some 19) _ = _
           simp only [Act.put, List.setIfInBounds_toArray, List.set_cons_zero, List.set_cons_succ]
           rfl
          refine zr 2 20 (zm 17 7) ?_
          refine zr 3 21 (zm 17 15) ?_
          refine zt5 4 22 (zm 17 31) hHeld ?_
          refine zr 5 23 (zm 17 63) ?_
          refine zt5 6 24 (zm 17 127) hHeld ?_
          refine zr 7 25 (zm 17 255) ?_
          refine zr 8 26 (zm 17 511) ?_
          refine zr 9 27 (zm 17 1023) ?_
          refine zr 10 28 (zm 17 2047) ?_
          refine zt5 11 29 (zm 17 4095) hHeld ?_
          refine zt5 12 30 (zm 17 8191) hHeld ?_
          refine one_ (i := 13) (N := some 31) (zm 17 16383) rfl rfl (by kernel_rfl) (by decide) (fun K hK => ?_)
          refine goes_ Tryz.func46 (by kernel_rfl) rfl #[.agg #[.int .i64 n', .int .i64 d', .slice A L'.length cc]] (by rfl) rfl rfl (by (try simp only [List.map_toArray, List.map_cons, List.map_nil]); first | done | rfl) ?_
          refine (HTot.out trivial _ HK2.out).mono ?_
          rintro e w3 ⟨rfl, hb⟩
          refine ⟨_, rfl, ?_⟩
          have HK3 := Lib.hid hb
          clear hb
          refine hK.out _ _ (HSS.out _ HK3.out) (fun hHeld => ?_)
          clear hK K
          refine norm_ (a' := ?_) ?_ ?_
          rotate_left
          ·
           show Act.put _ (some 31) _ = _
           simp only [Act.put, List.setIfInBounds_toArray, List.set_cons_zero, List.set_cons_succ]
           rfl
          refine zr 14 32 (zm 17 32767) ?_
          refine zr 15 33 (zm 17 65535) ?_
          refine zr 16 17 (zm 17 131071) ?_
          refine done_ (by kernel_rfl) ?_
          have g5 := (HK3.out.block _ (blk_lt HR5.out)).trans HR5.out
          have r0 : w3.cell? ⟨w.heap.size, 0, none⟩ = some (.int .i64 0) := bkc g5 0
          have r1 : w3.cell? ⟨w.heap.size, 1, none⟩ = some (.int .i64 0) := bkc g5 1
          have r2 : w3.cell? ⟨w.heap.size, 2, none⟩ = some (.slice none 0 0) := bkc g5 2
          have f0 : w3.frozen? ⟨w.heap.size, 0, none⟩ = false := bkf g5 0
          have f1 : w3.frozen? ⟨w.heap.size, 1, none⟩ = false := bkf g5 1
          have f2 : w3.frozen? ⟨w.heap.size, 2, none⟩ = false := bkf g5 2
          obtain ⟨a0, a1, a2, a3, a4⟩ := HSS.out _ HK3.out
          have HLow6 := Lib.hid (below_then HLow.out HLow.out.size HK3.out)
          have HRR6 := Lib.hid (Kd.R_below HRR.out HK3.out)
          have HG5 := Lib.hid g5
          clear g5 hHeld
          go_wp2_with fail
          have hcs := HCase.out
          simp only [if_true] at hcs
          obtain ⟨rfl, rfl, rfl, rfl⟩ : n = n' ∧ d = d' ∧ L = L' ∧ err = 0 := by simpa using hcs
          refine bodyPost_ret (results_row_tmp rfl _ _ w.heap.size _ #[.int .i64 n, .int .i64 d, .slice A L.length cc] (0, 0) _ rfl (blk_put (blk_put (blk_put HG5.out 0 _ rfl) 1 _ rfl) 2 _ rfl) Tryz.underlying27 rfl (by kernel_rfl)) rfl ?_
          have hq : ∀ q, q ∈ 47 :: k47.E → q ≠ 27 := by decide
          refine ⟨.slice A L.length cc, rfl, Kd.R_lower (Kd.R_set (Kd.R_set (Kd.R_set HRR6.out HG5.out hq 0 _) (blk_put HG5.out 0 _ rfl) hq 1 _) (blk_put (blk_put HG5.out 0 _ rfl) 1 _ rfl) hq 2 _) HB1'.out, ((HLow6.out.setCell (p := ⟨w.heap.size, 0, none⟩) (Nat.le_refl _) _).setCell (p := ⟨w.heap.size, 1, none⟩) (Nat.le_refl _) _).setCell (p := ⟨w.heap.size, 2, none⟩) (Nat.le_refl _) _⟩
        · have hsb : (s' != netSum L') = true := by simpa using hs
          go_wp2_with fail
          refine start_ (n := 17) (S := fun w' => w'.cell? ⟨w.heap.size + 1, 0, none⟩ = some (.int .i64 n') ∧ w'.cell? ⟨w.heap.size + 1, 1, none⟩ = some (.int .i64 d') ∧ w'.cell? ⟨w.heap.size + 1, 2, none⟩ = some (.slice A L'.length cc) ∧ w'.cell? ⟨w.heap.size + 1 + 1, 0, none⟩ = some (.int .i64 L'.length) ∧ w'.cell? ⟨w.heap.size + 1 + 1 + 1, 0, none⟩ = some (.int .i64 s')) (ds := []) (zo 17) (by kernel_rfl) rfl rfl (HSS.out _ HK1.out) (fun hHeld => ?_)
          refine zt5 0 18 (zm 17 1) hHeld ?_
          refine one_ (i := 1) (N := some 19) (zm 17 3) rfl rfl (by kernel_rfl) (by decide) (fun K hK => ?_)
          refine goes_ Tryz.func22 (by kernel_rfl) rfl #[.agg #[.int .i64 n', .int .i64 d', .slice A L'.length cc]] (by rfl) rfl rfl (by (try simp only [List.map_toArray, List.map_cons, List.map_nil]); first | done | rfl) ?_
          refine (HVal.out _ HK1.out).mono ?_
          rintro e w2 ⟨rfl, hb⟩
          refine ⟨_, rfl, ?_⟩
          have HK2 := Lib.hid hb
          clear hb
          refine hK.out _ _ (HSS.out _ HK2.out) (fun hHeld => ?_)
          clear hK K
          refine norm_ (a' := ?_) ?_ ?_
          rotate_left
          ·
           show Act.put _ (some 19) _ = _
           simp only [Act.put, List.setIfInBounds_toArray, List.set_cons_zero, List.set_cons_succ]
           rfl
          refine zr 2 20 (zm 17 7) ?_
          refine zr 3 21 (zm 17 15) ?_
          refine zt5 4 22 (zm 17 31) hHeld ?_
          refine zr 5 23 (zm 17 63) ?_
          refine zt5 6 24 (zm 17 127) hHeld ?_
          refine zr 7 25 (zm 17 255) ?_
          refine zr 8 26 (zm 17 511) ?_
          refine zr 9 27 (zm 17 1023) ?_
          refine zr 10 28 (zm 17 2047) ?_
          refine zt5 11 29 (zm 17 4095) hHeld ?_
          refine zt5 12 30 (zm 17 8191) hHeld ?_
          refine one_ (i := 13) (N := some 31) (zm 17 16383) rfl rfl (by kernel_rfl) (by decide) (fun K hK => ?_)
          refine goes_ Tryz.func46 (by kernel_rfl) rfl #[.agg #[.int .i64 n', .int .i64 d', .slice A L'.length cc]] (by rfl) rfl rfl (by (try simp only [List.map_toArray, List.map_cons, List.map_nil]); first | done | rfl) ?_
          refine (HTot.out trivial _ HK2.out).mono ?_
          rintro e w3 ⟨rfl, hb⟩
          refine ⟨_, rfl, ?_⟩
          have HK3 := Lib.hid hb
          clear hb
          refine hK.out _ _ (HSS.out _ HK3.out) (fun hHeld => ?_)
          clear hK K
          refine norm_ (a' := ?_) ?_ ?_
          rotate_left
          ·
           show Act.put _ (some 31) _ = _
           simp only [Act.put, List.setIfInBounds_toArray, List.set_cons_zero, List.set_cons_succ]
           rfl
          refine zr 14 32 (zm 17 32767) ?_
          refine zr 15 33 (zm 17 65535) ?_
          refine zr 16 17 (zm 17 131071) ?_
          refine done_ (by kernel_rfl) ?_
          have g5 := (HK3.out.block _ (blk_lt HR5.out)).trans HR5.out
          have r0 : w3.cell? ⟨w.heap.size, 0, none⟩ = some (.int .i64 0) := bkc g5 0
          have r1 : w3.cell? ⟨w.heap.size, 1, none⟩ = some (.int .i64 0) := bkc g5 1
          have r2 : w3.cell? ⟨w.heap.size, 2, none⟩ = some (.slice none 0 0) := bkc g5 2
          have f0 : w3.frozen? ⟨w.heap.size, 0, none⟩ = false := bkf g5 0
          have f1 : w3.frozen? ⟨w.heap.size, 1, none⟩ = false := bkf g5 1
          have f2 : w3.frozen? ⟨w.heap.size, 2, none⟩ = false := bkf g5 2
          obtain ⟨a0, a1, a2, a3, a4⟩ := HSS.out _ HK3.out
          have HLow6 := Lib.hid (below_then HLow.out HLow.out.size HK3.out)
          have HRR6 := Lib.hid (Kd.R_below HRR.out HK3.out)
          have HG5 := Lib.hid g5
          clear g5 hHeld
          go_wp2_with fail
          have hcs := HCase.out
          rw [if_pos trivial, if_neg hs] at hcs
          obtain ⟨rfl, rfl, rfl, rfl⟩ : n = 0 ∧ d = 0 ∧ L = [] ∧ err = 362 := by simpa using hcs
          refine bodyPost_ret (results_row_tmp rfl _ _ w.heap.size _ #[.int .i64 0, .int .i64 0, .slice none 0 0] (0, 0) _ rfl (blk_put (blk_put (blk_put HG5.out 0 _ rfl) 1 _ rfl) 2 _ rfl) Tryz.underlying27 rfl (by kernel_rfl)) rfl ?_
          exact ⟨.slice none 0 0, rfl, Kd.R_nil _ _ _ _ _, ((HLow6.out.setCell (p := ⟨w.heap.size, 0, none⟩) (Nat.le_refl _) _).setCell (p := ⟨w.heap.size, 1, none⟩) (Nat.le_refl _) _).setCell (p := ⟨w.heap.size, 2, none⟩) (Nat.le_refl _) _⟩
      · have hkb : (k' != (L'.length : Int)) = true := by simpa using hk
        go_wp2_with fail
        refine start_ (n := 17) (S := fun w' => w'.cell? ⟨w.heap.size + 1, 0, none⟩ = some (.int .i64 n') ∧ w'.cell? ⟨w.heap.size + 1, 1, none⟩ = some (.int .i64 d') ∧ w'.cell? ⟨w.heap.size + 1, 2, none⟩ = some (.slice A L'.length cc) ∧ w'.cell? ⟨w.heap.size + 1 + 1, 0, none⟩ = some (.int .i64 k') ∧ w'.cell? ⟨w.heap.size + 1 + 1 + 1, 0, none⟩ = some (.int .i64 s')) (ds := []) (zo 17) (by kernel_rfl) rfl rfl (HSS.out _ HK1.out) (fun hHeld => ?_)
        refine zt5 0 18 (zm 17 1) hHeld ?_
        refine one_ (i := 1) (N := some 19) (zm 17 3) rfl rfl (by kernel_rfl) (by decide) (fun K hK => ?_)
        refine goes_ Tryz.func22 (by kernel_rfl) rfl #[.agg #[.int .i64 n', .int .i64 d', .slice A L'.length cc]] (by rfl) rfl rfl (by (try simp only [List.map_toArray, List.map_cons, List.map_nil]); first | done | rfl) ?_
        refine (HVal.out _ HK1.out).mono ?_
        rintro e w2 ⟨rfl, hb⟩
        refine ⟨_, rfl, ?_⟩
        have HK2 := Lib.hid hb
        clear hb
        refine hK.out _ _ (HSS.out _ HK2.out) (fun hHeld => ?_)
        clear hK K
        refine norm_ (a' := ?_) ?_ ?_
        rotate_left
        ·
         show Act.put _ (some 19) _ = _
         simp only [Act.put, List.setIfInBounds_toArray, List.set_cons_zero, List.set_cons_succ]
         rfl
        refine zr 2 20 (zm 17 7) ?_
        refine zr 3 21 (zm 17 15) ?_
        refine zt5 4 22 (zm 17 31) hHeld ?_
        refine zr 5 23 (zm 17 63) ?_
        refine zt5 6 24 (zm 17 127) hHeld ?_
        refine zr 7 25 (zm 17 255) ?_
        refine zr 8 26 (zm 17 511) ?_
        refine zr 9 27 (zm 17 1023) ?_
        refine zr 10 28 (zm 17 2047) ?_
        refine zro 11 29 (zm 17 4095) ?_
        refine zro 12 30 (zm 17 8191) ?_
        refine zro 13 31 (zm 17 16383) ?_
        refine zro 14 32 (zm 17 32767) ?_
        refine zr 15 33 (zm 17 65535) ?_
        refine zr 16 17 (zm 17 131071) ?_
        refine done_ (by kernel_rfl) ?_
        have g5 := (HK2.out.block _ (blk_lt HR5.out)).trans HR5.out
        have r0 : w2.cell? ⟨w.heap.size, 0, none⟩ = some (.int .i64 0) := bkc g5 0
        have r1 : w2.cell? ⟨w.heap.size, 1, none⟩ = some (.int .i64 0) := bkc g5 1
        have r2 : w2.cell? ⟨w.heap.size, 2, none⟩ = some (.slice none 0 0) := bkc g5 2
        have f0 : w2.frozen? ⟨w.heap.size, 0, none⟩ = false := bkf g5 0
        have f1 : w2.frozen? ⟨w.heap.size, 1, none⟩ = false := bkf g5 1
        have f2 : w2.frozen? ⟨w.heap.size, 2, none⟩ = false := bkf g5 2
        obtain ⟨a0, a1, a2, a3, a4⟩ := HSS.out _ HK2.out
        have HLow6 := Lib.hid (below_then HLow.out HLow.out.size HK2.out)
        have HRR6 := Lib.hid (Kd.R_below HRR.out HK2.out)
        have HG5 := Lib.hid g5
        clear g5 hHeld
        go_wp2_with fail
        have hcs := HCase.out
        rw [if_pos trivial, if_neg hk] at hcs
        obtain ⟨rfl, rfl, rfl, rfl⟩ : n = 0 ∧ d = 0 ∧ L = [] ∧ err = 362 := by simpa using hcs
        refine bodyPost_ret (results_row_tmp rfl _ _ w.heap.size _ #[.int .i64 0, .int .i64 0, .slice none 0 0] (0, 0) _ rfl (blk_put (blk_put (blk_put HG5.out 0 _ rfl) 1 _ rfl) 2 _ rfl) Tryz.underlying27 rfl (by kernel_rfl)) rfl ?_
        exact ⟨.slice none 0 0, rfl, Kd.R_nil _ _ _ _ _, ((HLow6.out.setCell (p := ⟨w.heap.size, 0, none⟩) (Nat.le_refl _) _).setCell (p := ⟨w.heap.size, 1, none⟩) (Nat.le_refl _) _).setCell (p := ⟨w.heap.size, 2, none⟩) (Nat.le_refl _) _⟩
  · have hcase : (n, d, L, err) = (0, 0, [], c) := by
      rw [← HR.out]
      unfold fileR
      rw [if_neg (by rw [← hc]; exact h0), ← hc]
    obtain ⟨rfl, rfl, rfl, rfl⟩ : n = 0 ∧ d = 0 ∧ L = [] ∧ err = c := by simpa using hcase
    have r0 : w5.cell? ⟨w.heap.size, 0, none⟩ = some (.int .i64 0) := bkc hr5 0
    have r1 : w5.cell? ⟨w.heap.size, 1, none⟩ = some (.int .i64 0) := bkc hr5 1
    have r2 : w5.cell? ⟨w.heap.size, 2, none⟩ = some (.slice none 0 0) := bkc hr5 2
    have f0 : w5.frozen? ⟨w.heap.size, 0, none⟩ = false := bkf hr5 0
    have f1 : w5.frozen? ⟨w.heap.size, 1, none⟩ = false := bkf hr5 1
    have f2 : w5.frozen? ⟨w.heap.size, 2, none⟩ = false := bkf hr5 2
    clear hcase hc hst hlow hr5 hb5
    go_wp2_with fail
    refine bodyPost_ret (results_row_tmp rfl _ _ w.heap.size _ #[.int .i64 0, .int .i64 0, .slice none 0 0] (0, 0) _ rfl (blk_put (blk_put (blk_put HR5.out 0 _ rfl) 1 _ rfl) 2 _ rfl) Tryz.underlying27 rfl (by kernel_rfl)) rfl ?_
    exact ⟨.slice none 0 0, rfl, Kd.R_nil _ _ _ _ _, ((HLow.out.setCell (p := ⟨w.heap.size, 0, none⟩) (Nat.le_refl _) _).setCell (p := ⟨w.heap.size, 1, none⟩) (Nat.le_refl _) _).setCell (p := ⟨w.heap.size, 2, none⟩) (Nat.le_refl _) _⟩
def bank_Read.f (k : Nat) (a0 : ByteArray) : Option (Int × Int × (List (S47)) × Int) := if a0.size ≤ 4611686018427387904 then some (fileR a0.data.toList) else none
theorem bank_Read.calls (k : Nat) (a0 : ByteArray) (r1 : Int) (r2 : Int) (r3 : List (S47)) (r4 : Int) (w : World) (hG : GG w) (h : bank_Read.f k a0 = some (r1, r2, r3, r4)) :
    Calls Tryz.prog 24 #[.string a0] w fun e w' => ∃ v2_ : Value, e = .returned (.tuple #[.agg #[.int .i64 r1, .int .i64 r2, v2_], .int .i64 r4]) ∧ Kd.R k47 47 w' w.heap.size (fun _ => True) v2_ r3 ∧ Below w.heap.size w w' := by
  unfold bank_Read.f at h
  split at h
  · rename_i hs
    have h2 := readFile_go a0.data.toList hs r1 r2 r3 r4 (Option.some.inj h) w hG
    rwa [Bt_of] at h2
  · cases h
end
end Go.Proofs.YtndojpcjhkncgaaGreatDoor.Q
end
section
namespace Go.Proofs.YtndojpcjhkncgaaGreatDoor.Q
open Go Go.RowKit Go.Proofs.YtndojpcjhkncgaaGreatDoorW.PrintWords
section
def ofOrd (o : S47) : List Int := [o.f0, o.f1, o.f2, o.f3, o.f4]
def ofRet (o : S49) : List Int := [o.f0, o.f1]
theorem orders_flat (rs : List (List Int)) (h : ∀ r ∈ rs, r.length = 5) : rs.flatMap (lineL orderW) = (rs.map toOrd).flatMap orderL := by
  induction rs with
  | nil => rfl
  | cons r rs ih =>
    obtain ⟨a, b, c, d, e, rfl⟩ : ∃ a b c d e, r = [a, b, c, d, e] := by
      match r, h r List.mem_cons_self with
      | [a, b, c, d, e], _ => exact ⟨a, b, c, d, e, rfl⟩
    rw [List.flatMap_cons, List.map_cons, List.flatMap_cons, ih (fun r hr => h r (List.mem_cons_of_mem _ hr))]
    rfl
theorem returns_flat (rs : List (List Int)) (h : ∀ r ∈ rs, r.length = 2) : rs.flatMap (lineL returnW) = (rs.map toRet).flatMap returnL := by
  induction rs with
  | nil => rfl
  | cons r rs ih =>
    obtain ⟨a, b, rfl⟩ : ∃ a b, r = [a, b] := by
      match r, h r List.mem_cons_self with
      | [a, b], _ => exact ⟨a, b, rfl⟩
    rw [List.flatMap_cons, List.map_cons, List.flatMap_cons, ih (fun r hr => h r (List.mem_cons_of_mem _ hr))]
    rfl
theorem toOrd_of (L : List S47) : (L.map ofOrd).map toOrd = L := by
  rw [List.map_map]
  exact List.map_id L
theorem toRet_of (L : List S49) : (L.map ofRet).map toRet = L := by
  rw [List.map_map]
  exact List.map_id L
theorem fileL_lines (n d : Int) (L : List S47) (s : Int) : fileL n d L s = lineL payL [n, d, (L.length : Int), s] ++ (L.map ofOrd).flatMap (lineL orderW) := by
  rw [orders_flat _ (fun r hr => by obtain ⟨o, _, rfl⟩ := List.mem_map.mp hr; rfl), toOrd_of]
  rfl
theorem answerL_lines (n d : Int) (L : List S49) : answerL n d L = lineL backL [n, d, (L.length : Int)] ++ (L.map ofRet).flatMap (lineL returnW) := by
  rw [returns_flat _ (fun r hr => by obtain ⟨o, _, rfl⟩ := List.mem_map.mp hr; rfl), toRet_of]
  rfl
theorem fileText_len {n d : Int} {L : List S47} (h : validB n d L = true) : (fileText n d L).length ≤ 114 + 116 * L.length := by
  have := fileL_len h
  unfold fileText
  rw [List.length_append, endL_len]
  omega
theorem answerText_len {n d : Int} {L : List S49} (h : rightB n d L = true) : (answerText n d L).length ≤ 93 + 51 * L.length := by
  have := answerL_len h
  unfold answerText
  rw [List.length_append, endL_len]
  omega
theorem head_in {n d : Int} {L : List S47} (h : validB n d L = true) : ∀ m ∈ [n, d, (L.length : Int), netSum L], numIn m = true := by
  obtain ⟨h0, h1, h2⟩ := valid_orders h
  have h3 := netSum_le L 0 0 (by omega) (by omega) h2
  simp only [datedB, countB, Bool.and_eq_true, decide_eq_true_eq] at h0
  intro m hm
  rw [numIn_iff]
  simp only [List.mem_cons, List.not_mem_nil, or_false] at hm
  omega
theorem order_in {o : S47} (h : orderB o = true) : ∀ m ∈ ofOrd o, numIn m = true := by
  simp only [orderB, countB, Bool.and_eq_true, decide_eq_true_eq] at h
  intro m hm
  rw [numIn_iff]
  simp only [ofOrd, List.mem_cons, List.not_mem_nil, or_false] at hm
  omega
theorem headA_in {n d : Int} {L : List S49} (h : rightB n d L = true) : ∀ m ∈ [n, d, (L.length : Int)], numIn m = true := by
  obtain ⟨_, h0, h1⟩ := right_parts h
  simp only [datedB, countB, Bool.and_eq_true, decide_eq_true_eq] at h0
  intro m hm
  rw [numIn_iff]
  simp only [List.mem_cons, List.not_mem_nil, or_false] at hm
  omega
theorem back_in {o : S49} (h : backB o = true) : ∀ m ∈ ofRet o, numIn m = true := by
  simp only [backB, countB, Bool.and_eq_true, decide_eq_true_eq] at h
  intro m hm
  rw [numIn_iff]
  simp only [ofRet, List.mem_cons, List.not_mem_nil, or_false] at hm
  omega
theorem fileR_zero (t : List UInt8) (n d : Int) (L : List S47) (h : fileR t = (n, d, L, 0)) : validB n d L = true ∧ t = fileText n d L ∧ t.length ≤ 1048576 := by
  unfold fileR at h
  by_cases hc : readC fileOk t = 0
  · obtain ⟨l, ls, a, rs, h1, h2, h3, h4, h5, h6, h7, h8⟩ := read_text payL orderW (by decide) (by decide) 4 5 t hc
    obtain ⟨a0, a1, a2, a3, rfl⟩ : ∃ a0 a1 a2 a3, a = [a0, a1, a2, a3] := by
      match a, h5 with
      | [a0, a1, a2, a3], _ => exact ⟨a0, a1, a2, a3, rfl⟩
    rw [if_pos hc, h1, fileSt_mk l ls _ rs h2 h3] at h
    have h : (if validB a0 a1 (rs.map toOrd) = true then (if a2 = ((rs.map toOrd).length : Int) then (if a3 = netSum (rs.map toOrd) then (a0, a1, rs.map toOrd, (0 : Int)) else (0, 0, [], 362)) else (0, 0, [], 362)) else (0, 0, [], 362)) = (n, d, L, 0) := h
    by_cases v : validB a0 a1 (rs.map toOrd) = true
    · rw [if_pos v] at h
      by_cases k : a2 = ((rs.map toOrd).length : Int)
      · rw [if_pos k] at h
        by_cases s : a3 = netSum (rs.map toOrd)
        · rw [if_pos s] at h
          cases h
          refine ⟨v, ?_, h8⟩
          have hh : lineL payL [n, d, a2, a3] ++ rs.flatMap (lineL orderW) = fileL n d (rs.map toOrd) (netSum (rs.map toOrd)) := by
            rw [orders_flat rs (fun r hr => (h7 r hr).1), k, s]
            rfl
          rw [hh] at h4
          exact h4
        · rw [if_neg s] at h; cases h
      · rw [if_neg k] at h; cases h
    · rw [if_neg v] at h; cases h
  · rw [if_neg hc] at h
    injection h with _ h
    injection h with _ h
    injection h with _ h
    exact absurd h hc
theorem fileR_else (t : List UInt8) (n d : Int) (L : List S47) (e : Int) (h : fileR t = (n, d, L, e)) (he : e ≠ 0) : n = 0 ∧ d = 0 ∧ L = [] := by
  unfold fileR at h
  split at h
  · split at h
    · split at h
      · split at h
        · split at h
          · cases h; exact absurd rfl he
          · cases h; exact ⟨rfl, rfl, rfl⟩
        · cases h; exact ⟨rfl, rfl, rfl⟩
      · cases h; exact ⟨rfl, rfl, rfl⟩
    · cases h; exact ⟨rfl, rfl, rfl⟩
  · cases h; exact ⟨rfl, rfl, rfl⟩
theorem fileR_text (n d : Int) (L : List S47) (h : validB n d L = true) : fileR (fileText n d L) = (n, d, L, 0) := by
  have hl := fileText_len h
  obtain ⟨v0, v1, v2⟩ := valid_orders h
  have ht : fileText n d L = (lineL payL [n, d, (L.length : Int), netSum L] ++ (L.map ofOrd).flatMap (lineL orderW)) ++ endL (lineL payL [n, d, (L.length : Int), netSum L] ++ (L.map ofOrd).flatMap (lineL orderW)) := by unfold fileText; rw [fileL_lines]
  rw [ht] at hl ⊢
  obtain ⟨r1, r2, r3, r4⟩ := text_read payL orderW (by decide) (by decide) (by decide) (by decide) 4 5 [n, d, (L.length : Int), netSum L] (L.map ofOrd) ⟨rfl, head_in h⟩ (fun r hr => by
    obtain ⟨o, ho, rfl⟩ := List.mem_map.mp hr
    exact ⟨rfl, order_in (orders_mem L 0 0 v2 o ho)⟩) (by omega)
  unfold fileR
  rw [if_pos r1, r2, fileSt_mk _ _ _ _ r3 r4, toOrd_of]
  show (if validB n d L = true then (if (L.length : Int) = (L.length : Int) then (if netSum L = netSum L then (n, d, L, (0 : Int)) else (0, 0, [], 362)) else (0, 0, [], 362)) else (0, 0, [], 362)) = _
  rw [if_pos h, if_pos rfl, if_pos rfl]
theorem answerR_zero (t : List UInt8) (n d : Int) (L : List S49) (h : answerR t = (n, d, L, 0)) : rightB n d L = true ∧ t = answerText n d L ∧ t.length ≤ 1048576 := by
  unfold answerR at h
  by_cases hc : readC answerOk t = 0
  · obtain ⟨l, ls, a, rs, h1, h2, h3, h4, h5, h6, h7, h8⟩ := read_text backL returnW (by decide) (by decide) 3 2 t hc
    obtain ⟨a0, a1, a2, rfl⟩ : ∃ a0 a1 a2, a = [a0, a1, a2] := by
      match a, h5 with
      | [a0, a1, a2], _ => exact ⟨a0, a1, a2, rfl⟩
    rw [if_pos hc, h1, answerSt_mk l ls _ rs h2 h3] at h
    have h : (if rightB a0 a1 (rs.map toRet) = true then (if a2 = ((rs.map toRet).length : Int) then (a0, a1, rs.map toRet, (0 : Int)) else (0, 0, [], 362)) else (0, 0, [], 362)) = (n, d, L, 0) := h
    by_cases v : rightB a0 a1 (rs.map toRet) = true
    · rw [if_pos v] at h
      by_cases k : a2 = ((rs.map toRet).length : Int)
      · rw [if_pos k] at h
        cases h
        refine ⟨v, ?_, h8⟩
        have hh : lineL backL [n, d, a2] ++ rs.flatMap (lineL returnW) = answerL n d (rs.map toRet) := by
          rw [returns_flat rs (fun r hr => (h7 r hr).1), k]
          rfl
        rw [hh] at h4
        exact h4
      · rw [if_neg k] at h; cases h
    · rw [if_neg v] at h; cases h
  · rw [if_neg hc] at h
    injection h with _ h
    injection h with _ h
    injection h with _ h
    exact absurd h hc
theorem answerR_else (t : List UInt8) (n d : Int) (L : List S49) (e : Int) (h : answerR t = (n, d, L, e)) (he : e ≠ 0) : n = 0 ∧ d = 0 ∧ L = [] := by
  unfold answerR at h
  split at h
  · split at h
    · split at h
      · split at h
        · cases h; exact absurd rfl he
        · cases h; exact ⟨rfl, rfl, rfl⟩
      · cases h; exact ⟨rfl, rfl, rfl⟩
    · cases h; exact ⟨rfl, rfl, rfl⟩
  · cases h; exact ⟨rfl, rfl, rfl⟩
theorem answerR_text (n d : Int) (L : List S49) (h : rightB n d L = true) : answerR (answerText n d L) = (n, d, L, 0) := by
  have hl := answerText_len h
  obtain ⟨v2, v0, v1⟩ := right_parts h
  have ht : answerText n d L = (lineL backL [n, d, (L.length : Int)] ++ (L.map ofRet).flatMap (lineL returnW)) ++ endL (lineL backL [n, d, (L.length : Int)] ++ (L.map ofRet).flatMap (lineL returnW)) := by unfold answerText; rw [answerL_lines]
  rw [ht] at hl ⊢
  obtain ⟨r1, r2, r3, r4⟩ := text_read backL returnW (by decide) (by decide) (by decide) (by decide) 3 2 [n, d, (L.length : Int)] (L.map ofRet) ⟨rfl, headA_in h⟩ (fun r hr => by
    obtain ⟨o, ho, rfl⟩ := List.mem_map.mp hr
    exact ⟨rfl, back_in (backs_mem L 0 v2 o ho)⟩) (by omega)
  unfold answerR
  rw [if_pos r1, r2, answerSt_mk _ _ _ _ r3 r4, toRet_of]
  show (if rightB n d L = true then (if (L.length : Int) = (L.length : Int) then (n, d, L, (0 : Int)) else (0, 0, [], 362)) else (0, 0, [], 362)) = _
  rw [if_pos h, if_pos rfl]
theorem Read_ev (t : List UInt8) (h : t.length ≤ 4611686018427387904) : Ev (fun k => bank_Read.f k (B t)) (fileR t) := ⟨0, fun k _ => by
  unfold bank_Read.f
  rw [if_pos (by rw [B_size]; exact h)]
  have : (B t).data.toList = t := by simp [B]
  rw [this]⟩
theorem ReadAnswer_ev (t : List UInt8) (h : t.length ≤ 4611686018427387904) : Ev (fun k => bank_ReadAnswer.f k (B t)) (answerR t) := ⟨0, fun k _ => by
  unfold bank_ReadAnswer.f
  rw [if_pos (by rw [B_size]; exact h)]
  have : (B t).data.toList = t := by simp [B]
  rw [this]⟩
end
end Go.Proofs.YtndojpcjhkncgaaGreatDoor.Q
end

section

end
section
namespace Go.Proofs.YtndojpcjhkncgaaGreatDoor.Q
open Go.RowKit Go.Proofs.YtndojpcjhkncgaaGreatDoorW.PrintWords Go.Proofs.YtndojpcjhkncgaaGreatDoorW.PrintLast Go.Proofs.YtndojpcjhkncgaaGreatDoorW.PrintMore
section
def aL_change.f (a0 : ByteArray) (a1 : Int) (a2 : Int) (a3 : Int) : Option (ByteArray) := if a2 = 0 then (if 0 ≤ a1 then (if a1 ≤ (a0.size : Int) then ((some (([a3] : List Int) : List Int)).bind fun y404 => (if (a0.extract 0 (a1 : Int).toNat).size + (strOfNums y404).size ≤ 9223372036854775807 then (if 0 ≤ (wrap64 (a1 + 1)) then (if (wrap64 (a1 + 1)) ≤ (a0.size : Int) then (if (a0.extract 0 (a1 : Int).toNat).size + (strOfNums y404).size + (a0.extract ((wrap64 (a1 + 1)) : Int).toNat a0.size).size ≤ 9223372036854775807 then (some (((a0.extract 0 (a1 : Int).toNat) ++ (strOfNums y404)) ++ (a0.extract ((wrap64 (a1 + 1)) : Int).toNat a0.size))) else (none)) else (none)) else (none)) else (none))) else (none)) else (none)) else (if a2 = 1 then (if 0 ≤ a1 then (if a1 ≤ (a0.size : Int) then ((some (([a3] : List Int) : List Int)).bind fun y407 => (if (a0.extract 0 (a1 : Int).toNat).size + (strOfNums y407).size ≤ 9223372036854775807 then (if (a0.extract 0 (a1 : Int).toNat).size + (strOfNums y407).size + (a0.extract (a1 : Int).toNat a0.size).size ≤ 9223372036854775807 then (some (((a0.extract 0 (a1 : Int).toNat) ++ (strOfNums y407)) ++ (a0.extract (a1 : Int).toNat a0.size))) else (none)) else (none))) else (none)) else (none)) else (if 0 ≤ a1 then (if a1 ≤ (a0.size : Int) then (if 0 ≤ (wrap64 (a1 + 1)) then (if (wrap64 (a1 + 1)) ≤ (a0.size : Int) then (if (a0.extract 0 (a1 : Int).toNat).size + (a0.extract ((wrap64 (a1 + 1)) : Int).toNat a0.size).size ≤ 9223372036854775807 then (some ((a0.extract 0 (a1 : Int).toNat) ++ (a0.extract ((wrap64 (a1 + 1)) : Int).toNat a0.size))) else (none)) else (none)) else (none)) else (none)) else (none)))
def aL_change.T3 : Bool × List (List Nat × List Nat) := (true, [([], []), ([], []), ([0, 1], [0, 1]), ([], []), ([3], [3]), ([4], [4]), ([2, 5], [2, 5]), ([], []), ([], []), ([8], [8]), ([7, 9], [7, 9]), ([6, 10], [6, 10]), ([11, 0, 1, 2, 3, 4, 5, 6, 7, 8, 9, 10, 11], [11])])
def aL_change.B3 : List Nat := [0, 0, 3, 0, 8, 24, 63, 0, 0, 256, 896, 2047, 4095]
theorem aL_change.tab3 : rtab .any (opsOf Tryz.f17 3) = aL_change.T3 := by kernel_rfl
theorem aL_change.bits3 : waitsOk aL_change.T3.2 aL_change.B3 = true := by kernel_rfl
def aL_change.T5 : Bool × List (List Nat × List Nat) := (true, [([], []), ([], []), ([0, 1], [0, 1]), ([], []), ([3], [3]), ([4], [4]), ([2, 5], [2, 5]), ([], []), ([], []), ([7, 8], [7, 8]), ([6, 9], [6, 9]), ([10, 0, 1, 2, 3, 4, 5, 6, 7, 8, 9, 10], [10])])
def aL_change.B5 : List Nat := [0, 0, 3, 0, 8, 24, 63, 0, 0, 384, 1023, 2047]
theorem aL_change.tab5 : rtab .any (opsOf Tryz.f17 5) = aL_change.T5 := by kernel_rfl
theorem aL_change.bits5 : waitsOk aL_change.T5.2 aL_change.B5 = true := by kernel_rfl
def aL_change.T6 : Bool × List (List Nat × List Nat) := (true, [([], []), ([], []), ([0, 1], [0, 1]), ([], []), ([], []), ([4], [4]), ([3, 5], [3, 5]), ([2, 6], [2, 6]), ([7, 0, 1, 2, 3, 4, 5, 6, 7], [7])])
def aL_change.B6 : List Nat := [0, 0, 3, 0, 0, 16, 56, 127, 255]
theorem aL_change.tab6 : rtab .any (opsOf Tryz.f17 6) = aL_change.T6 := by kernel_rfl
theorem aL_change.bits6 : waitsOk aL_change.T6.2 aL_change.B6 = true := by kernel_rfl
set_option maxHeartbeats 8000000 in
set_option maxRecDepth 100000 in
theorem aL_change.calls (a0 : ByteArray) (a1 : Int) (a2 : Int) (a3 : Int) (r : ByteArray) (w : World) (h : aL_change.f a0 a1 a2 a3 = some r) :
  Calls Tryz.prog 17 #[.string a0, .int .i64 a1, .int .i64 a2, .int .u8 a3] w fun e w' => e = .returned (.string r) ∧ Below w.heap.size w w' := by
 have HB := Zs.mk (Below.refl w.heap.size w); have H : (if a2 = 0 then (if 0 ≤ a1 then (if a1 ≤ (a0.size : Int) then ((some (([a3] : List Int) : List Int)).bind fun y404 => (if (a0.extract 0 (a1 : Int).toNat).size + (strOfNums y404).size ≤ 9223372036854775807 then (if 0 ≤ (wrap64 (a1 + 1)) then (if (wrap64 (a1 + 1)) ≤ (a0.size : Int) then (if (a0.extract 0 (a1 : Int).toNat).size + (strOfNums y404).size + (a0.extract ((wrap64 (a1 + 1)) : Int).toNat a0.size).size ≤ 9223372036854775807 then (some (((a0.extract 0 (a1 : Int).toNat) ++ (strOfNums y404)) ++ (a0.extract ((wrap64 (a1 + 1)) : Int).toNat a0.size))) else (none)) else (none)) else (none)) else (none))) else (none)) else (none)) else (if a2 = 1 then (if 0 ≤ a1 then (if a1 ≤ (a0.size : Int) then ((some (([a3] : List Int) : List Int)).bind fun y407 => (if (a0.extract 0 (a1 : Int).toNat).size + (strOfNums y407).size ≤ 9223372036854775807 then (if (a0.extract 0 (a1 : Int).toNat).size + (strOfNums y407).size + (a0.extract (a1 : Int).toNat a0.size).size ≤ 9223372036854775807 then (some (((a0.extract 0 (a1 : Int).toNat) ++ (strOfNums y407)) ++ (a0.extract (a1 : Int).toNat a0.size))) else (none)) else (none))) else (none)) else (none)) else (if 0 ≤ a1 then (if a1 ≤ (a0.size : Int) then (if 0 ≤ (wrap64 (a1 + 1)) then (if (wrap64 (a1 + 1)) ≤ (a0.size : Int) then (if (a0.extract 0 (a1 : Int).toNat).size + (a0.extract ((wrap64 (a1 + 1)) : Int).toNat a0.size).size ≤ 9223372036854775807 then (some ((a0.extract 0 (a1 : Int).toNat) ++ (a0.extract ((wrap64 (a1 + 1)) : Int).toNat a0.size))) else (none)) else (none)) else (none)) else (none)) else (none)))) = some r := h; clear h
 by_cases c5 : a2 = 0
 ·
  rw [if_pos c5] at H
  obtain ⟨c5b0, c5b1⟩ := zeq c5; clear c5
  have c6 := zc H
  rw [if_pos c6] at H
  have c6b0 := eq_true c6; have c6b1 := decide_eq_true c6; clear c6
  have c7 := zc H
  rw [if_pos c7] at H
  have c7b0 := eq_true c7; have c7b1 := decide_eq_true c7; clear c7
  obtain ⟨y404, hy404⟩ : ∃ y_ : List Int, y_ = (([a3] : List Int)) := ⟨_, rfl⟩
  replace H : (if (a0.extract 0 (a1 : Int).toNat).size + (strOfNums y404).size ≤ 9223372036854775807 then (if 0 ≤ (wrap64 (a1 + 1)) then (if (wrap64 (a1 + 1)) ≤ (a0.size : Int) then (if (a0.extract 0 (a1 : Int).toNat).size + (strOfNums y404).size + (a0.extract ((wrap64 (a1 + 1)) : Int).toNat a0.size).size ≤ 9223372036854775807 then (some (((a0.extract 0 (a1 : Int).toNat) ++ (strOfNums y404)) ++ (a0.extract ((wrap64 (a1 + 1)) : Int).toNat a0.size))) else (none)) else (none)) else (none)) else (none)) = some r := by first | (rw [hy404]; with_reducible exact H) | (have H2_ := (Option.bind_some _ _).symm.trans H; rw [hy404]; with_reducible exact H2_) | (have H2_ := (Option.bind_some _ _).symm.trans H; with_reducible exact H2_) | with_reducible exact H | (rw [hy404]; exact H) | exact H
  have Ny404 := Zs.mk hy404; clear hy404
  have c8 := zc H
  rw [if_pos c8] at H
  have c8b0 := eq_true c8; have c8b1 := decide_eq_true c8
  try have c8b2 : (9223372036854775807 < (a0.extract 0 (a1 : Int).toNat).size + (strOfNums y404).size) = False := eq_false (Nat.not_lt.2 c8)
  have c8b9 : (9223372036854775807 < a1.toNat + (strOfNums y404).size) = False := eq_false (by have e0 : (a0.extract 0 (a1 : Int).toNat).size = a1.toNat := (by rw [ByteArray.size_extract]; have h_ := of_eq_true c7b0; omega); omega)
  obtain ⟨ji9, hji9⟩ : ∃ j_ : Int, (wrap64 (a1 + 1)) = j_ := ⟨_, rfl⟩
  replace H : (if 0 ≤ (ji9) then (if (ji9) ≤ (a0.size : Int) then (if (a0.extract 0 (a1 : Int).toNat).size + (strOfNums y404).size + (a0.extract ((ji9) : Int).toNat a0.size).size ≤ 9223372036854775807 then (some (((a0.extract 0 (a1 : Int).toNat) ++ (strOfNums y404)) ++ (a0.extract ((ji9) : Int).toNat a0.size))) else (none)) else (none)) else (none)) = some r := by first | (rw [hji9] at H; exact H) | (simp only [hji9] at H ⊢; exact H)
  have hji9w : (IntKind.i64.wrap (a1 + 1)) = ji9 := (i64_w _).trans hji9
  have c10 := zc H
  rw [if_pos c10] at H
  have c10b0 := eq_true c10; have c10b1 := decide_eq_true c10; clear c10
  have c11 := zc H
  rw [if_pos c11] at H
  have c11b0 := eq_true c11; have c11b1 := decide_eq_true c11; clear c11
  have c12 := zc H
  rw [if_pos c12] at H
  have c12b0 := eq_true c12; have c12b1 := decide_eq_true c12
  try have c12b2 : (9223372036854775807 < (a0.extract 0 (a1 : Int).toNat).size + (strOfNums y404).size + (a0.extract ((ji9) : Int).toNat a0.size).size) = False := eq_false (Nat.not_lt.2 c12)
  have c12b9 : (9223372036854775807 < a1.toNat + (strOfNums y404).size + (a0.size - ji9.toNat)) = False := eq_false (by have e0 : (a0.extract 0 (a1 : Int).toNat).size = a1.toNat := (by rw [ByteArray.size_extract]; have h_ := of_eq_true c7b0; omega); have e1 : (a0.extract ((ji9) : Int).toNat a0.size).size = a0.size - ji9.toNat := (by rw [ByteArray.size_extract]; omega); omega)
  obtain rfl := Option.some.inj H
  go_enter Tryz.func17, Tryz.ntmps17
  try go_wp2
  replace HB := Zs.mk (below_drew1 HB.out); 
  refine start_ (n := 13) (S := fun w' => True) (ds := []) (zo 13) (by kernel_rfl) rfl rfl trivial (fun hHeld => ?_); refine with_tabW aL_change.tab3 aL_change.bits3 (fun HT_ HW_ => ?_)
  generalize w.drew = w13 at HB hHeld ⊢
  refine zp 0 12 (zm 13 1) ?_
  refine zp 1 13 (zm 13 3) ?_
  refine zp 2 14 (zm 13 7) ?_
  refine zp 3 15 (zm 13 15) ?_
  refine zp 7 19 (zm 13 143) ?_
  refine zp 8 20 (zm 13 399) ?_
  refine zp 9 21 (zm 13 911) ?_
  refine zp 10 22 (zm 13 1935) ?_
  refine one_ (i := 4) (N := some 16) (zm 13 1951) rfl rfl (one_of HT_.out (by kernel_rfl)) (by decide) (fun K hK => ?_)
  refine Kd.R_lit_step (Kd.int .u8) _ 5 ?hg (N := 16) ?hd (xs := ([a3] : List Int)) (inner := [.int .u8 a3]) (ok := fun _ => True) (okp := fun _ => True) ?hr ?hp (fun _ hk => hk) trivial (Below.refl _ _) (Nat.le_refl _) (by simp) ?_; (case hd => rfl); (case hg => rfl); (case hr => first | (go_simp; done) | (go_simp; rfl)); (case hp => exact (Reps.one (show Kd.M (Kd.int .u8) _ _ _ a3 [.int .u8 a3] from rfl) (Reps.none _ _)))
  intro v405 w14 ho15 hb hg_ hnew_; clear hg_ hnew_
  (first | rw [← Ny404.out] at ho15 | (simp only [Int.reduceToNat] at ho15; rw [← Ny404.out] at ho15))
  have HO406 := Zs.mk (Kd.R_lower ho15 (bsz zB)); replace HB := zBs hb; clear hb ho15
  refine hK.out _ _ trivial (fun hHeld => ?_)
  clear hK K
  refine norm_ (a' := ?_) ?_ ?_
  rotate_left
  ·
   show Act.put _ (some 16) _ = _
   simp only [Act.put, z1, z2, z3, i64_w, i32_w]
   rfl
  refine one_ (i := 5) (N := some 17) (zm 13 1983) rfl rfl (one_of HT_.out (by kernel_rfl)) (by decide) (fun K hK => ?_)
  have hcv16 := own_string (P := Tryz.prog) Tryz.underlying53 Tryz.underlying5 Tryz.underlying9 (Kd.own_of_R HO406.out)
  refine value_ (w1 := ?_) (v := ?_) (by rfl) rfl ?_ ?_
  rotate_left 2
  ·
   go_simp
   constructor
   · rfl
   · rfl
  clear hcv16
  refine hK.out _ _ trivial (fun hHeld => ?_)
  clear hK K
  refine norm_ (a' := ?_) ?_ ?_
  rotate_left
  ·
   show Act.put _ (some 17) _ = _
   simp only [Act.put, z1, z2, z3, i64_w, i32_w]
   rfl
  refine zp 6 18 (zm 13 2047) ?_
  refine zp 11 23 (zm 13 4095) ?_
  refine zp 12 8 (zm 13 8191) ?_
  refine done_ (done_of HT_.out (by kernel_rfl)) ?_
  try go_wp2
  go_ret
  exact ⟨by first | rfl | (simp [errW_none, errW_some] <;> rfl) | (simp only [← hji9]; first | rfl | (simp [errW_none, errW_some] <;> rfl)) | (simp [*, errW_none, errW_some] <;> rfl), zB⟩
 ·
  rw [if_neg c5] at H
  obtain ⟨c5b0, c5b1⟩ := zne c5
  by_cases c17 : a2 = 1
  ·
   rw [if_pos c17] at H
   obtain ⟨c17b0, c17b1⟩ := zeq c17; clear c17
   have c18 := zc H
   rw [if_pos c18] at H
   have c18b0 := eq_true c18; have c18b1 := decide_eq_true c18; clear c18
   have c19 := zc H
   rw [if_pos c19] at H
   have c19b0 := eq_true c19; have c19b1 := decide_eq_true c19; clear c19
   obtain ⟨y407, hy407⟩ : ∃ y_ : List Int, y_ = (([a3] : List Int)) := ⟨_, rfl⟩
   replace H : (if (a0.extract 0 (a1 : Int).toNat).size + (strOfNums y407).size ≤ 9223372036854775807 then (if (a0.extract 0 (a1 : Int).toNat).size + (strOfNums y407).size + (a0.extract (a1 : Int).toNat a0.size).size ≤ 9223372036854775807 then (some (((a0.extract 0 (a1 : Int).toNat) ++ (strOfNums y407)) ++ (a0.extract (a1 : Int).toNat a0.size))) else (none)) else (none)) = some r := by first | (rw [hy407]; with_reducible exact H) | (have H2_ := (Option.bind_some _ _).symm.trans H; rw [hy407]; with_reducible exact H2_) | (have H2_ := (Option.bind_some _ _).symm.trans H; with_reducible exact H2_) | with_reducible exact H | (rw [hy407]; exact H) | exact H
   have Ny407 := Zs.mk hy407; clear hy407
   have c20 := zc H
   rw [if_pos c20] at H
   have c20b0 := eq_true c20; have c20b1 := decide_eq_true c20
   try have c20b2 : (9223372036854775807 < (a0.extract 0 (a1 : Int).toNat).size + (strOfNums y407).size) = False := eq_false (Nat.not_lt.2 c20)
   have c20b9 : (9223372036854775807 < a1.toNat + (strOfNums y407).size) = False := eq_false (by have e0 : (a0.extract 0 (a1 : Int).toNat).size = a1.toNat := (by rw [ByteArray.size_extract]; have h_ := of_eq_true c19b0; omega); omega)
   have c21b0 := eq_true (zD : 0 ≤ a1); have c22b0 := eq_true (zD : a1 ≤ (a0.size : Int))
   have c23 := zc H
   rw [if_pos c23] at H
   have c23b0 := eq_true c23; have c23b1 := decide_eq_true c23
   try have c23b2 : (9223372036854775807 < (a0.extract 0 (a1 : Int).toNat).size + (strOfNums y407).size + (a0.extract (a1 : Int).toNat a0.size).size) = False := eq_false (Nat.not_lt.2 c23)
   have c23b9 : (9223372036854775807 < a1.toNat + (strOfNums y407).size + (a0.size - a1.toNat)) = False := eq_false (by have e0 : (a0.extract 0 (a1 : Int).toNat).size = a1.toNat := (by rw [ByteArray.size_extract]; have h_ := of_eq_true c19b0; omega); have e1 : (a0.extract (a1 : Int).toNat a0.size).size = a0.size - a1.toNat := (by rw [ByteArray.size_extract]; omega); omega)
   obtain rfl := Option.some.inj H
   go_enter Tryz.func17, Tryz.ntmps17
   try go_wp2
   replace HB := Zs.mk (below_drew1 HB.out); 
   refine start_ (n := 12) (S := fun w' => True) (ds := []) (zo 12) (by kernel_rfl) rfl rfl trivial (fun hHeld => ?_); refine with_tabW aL_change.tab5 aL_change.bits5 (fun HT_ HW_ => ?_)
   generalize w.drew = w24 at HB hHeld ⊢
   refine zp 0 26 (zm 12 1) ?_
   refine zp 1 27 (zm 12 3) ?_
   refine zp 2 28 (zm 12 7) ?_
   refine zp 3 29 (zm 12 15) ?_
   refine zp 7 33 (zm 12 143) ?_
   refine zp 8 34 (zm 12 399) ?_
   refine zp 9 35 (zm 12 911) ?_
   refine one_ (i := 4) (N := some 30) (zm 12 927) rfl rfl (one_of HT_.out (by kernel_rfl)) (by decide) (fun K hK => ?_)
   refine Kd.R_lit_step (Kd.int .u8) _ 5 ?hg (N := 30) ?hd (xs := ([a3] : List Int)) (inner := [.int .u8 a3]) (ok := fun _ => True) (okp := fun _ => True) ?hr ?hp (fun _ hk => hk) trivial (Below.refl _ _) (Nat.le_refl _) (by simp) ?_; (case hd => rfl); (case hg => rfl); (case hr => first | (go_simp; done) | (go_simp; rfl)); (case hp => exact (Reps.one (show Kd.M (Kd.int .u8) _ _ _ a3 [.int .u8 a3] from rfl) (Reps.none _ _)))
   intro v408 w25 ho26 hb hg_ hnew_; clear hg_ hnew_
   (first | rw [← Ny407.out] at ho26 | (simp only [Int.reduceToNat] at ho26; rw [← Ny407.out] at ho26))
   have HO409 := Zs.mk (Kd.R_lower ho26 (bsz zB)); replace HB := zBs hb; clear hb ho26
   refine hK.out _ _ trivial (fun hHeld => ?_)
   clear hK K
   refine norm_ (a' := ?_) ?_ ?_
   rotate_left
   ·
    show Act.put _ (some 30) _ = _
    simp only [Act.put, z1, z2, z3, i64_w, i32_w]
    rfl
   refine one_ (i := 5) (N := some 31) (zm 12 959) rfl rfl (one_of HT_.out (by kernel_rfl)) (by decide) (fun K hK => ?_)
   have hcv27 := own_string (P := Tryz.prog) Tryz.underlying53 Tryz.underlying5 Tryz.underlying9 (Kd.own_of_R HO409.out)
   refine value_ (w1 := ?_) (v := ?_) (by rfl) rfl ?_ ?_
   rotate_left 2
   ·
    go_simp
    constructor
    · rfl
    · rfl
   clear hcv27
   refine hK.out _ _ trivial (fun hHeld => ?_)
   clear hK K
   refine norm_ (a' := ?_) ?_ ?_
   rotate_left
   ·
    show Act.put _ (some 31) _ = _
    simp only [Act.put, z1, z2, z3, i64_w, i32_w]
    rfl
   refine zp 6 32 (zm 12 1023) ?_
   refine zp 10 36 (zm 12 2047) ?_
   refine zp 11 8 (zm 12 4095) ?_
   refine done_ (done_of HT_.out (by kernel_rfl)) ?_
   try go_wp2
   go_ret
   exact ⟨zE, zB⟩
  ·
   rw [if_neg c17] at H
   obtain ⟨c17b0, c17b1⟩ := zne c17
   have c28 := zc H
   rw [if_pos c28] at H
   have c28b0 := eq_true c28; have c28b1 := decide_eq_true c28; clear c28
   have c29 := zc H
   rw [if_pos c29] at H
   have c29b0 := eq_true c29; have c29b1 := decide_eq_true c29; clear c29
   obtain ⟨ji30, hji30⟩ : ∃ j_ : Int, (wrap64 (a1 + 1)) = j_ := ⟨_, rfl⟩
   replace H : (if 0 ≤ (ji30) then (if (ji30) ≤ (a0.size : Int) then (if (a0.extract 0 (a1 : Int).toNat).size + (a0.extract ((ji30) : Int).toNat a0.size).size ≤ 9223372036854775807 then (some ((a0.extract 0 (a1 : Int).toNat) ++ (a0.extract ((ji30) : Int).toNat a0.size))) else (none)) else (none)) else (none)) = some r := by first | (rw [hji30] at H; exact H) | (simp only [hji30] at H ⊢; exact H)
   have hji30w : (IntKind.i64.wrap (a1 + 1)) = ji30 := (i64_w _).trans hji30
   have c31 := zc H
   rw [if_pos c31] at H
   have c31b0 := eq_true c31; have c31b1 := decide_eq_true c31; clear c31
   have c32 := zc H
   rw [if_pos c32] at H
   have c32b0 := eq_true c32; have c32b1 := decide_eq_true c32; clear c32
   have c33 := zc H
   rw [if_pos c33] at H
   have c33b0 := eq_true c33; have c33b1 := decide_eq_true c33
   try have c33b2 : (9223372036854775807 < (a0.extract 0 (a1 : Int).toNat).size + (a0.extract ((ji30) : Int).toNat a0.size).size) = False := eq_false (Nat.not_lt.2 c33)
   have c33b9 : (9223372036854775807 < a1.toNat + (a0.size - ji30.toNat)) = False := eq_false (by have e0 : (a0.extract 0 (a1 : Int).toNat).size = a1.toNat := (by rw [ByteArray.size_extract]; have h_ := of_eq_true c29b0; omega); have e1 : (a0.extract ((ji30) : Int).toNat a0.size).size = a0.size - ji30.toNat := (by rw [ByteArray.size_extract]; omega); omega)
   obtain rfl := Option.some.inj H
   go_enter Tryz.func17, Tryz.ntmps17
   try go_wp2
   replace HB := Zs.mk (below_drew1 HB.out); 
   refine start_ (n := 9) (S := fun w' => True) (ds := []) (zo 9) (by kernel_rfl) rfl rfl trivial (fun hHeld => ?_); refine with_tabW aL_change.tab6 aL_change.bits6 (fun HT_ HW_ => ?_)
   generalize w.drew = w34 at HB hHeld ⊢
   refine zp 0 37 (zm 9 1) ?_
   refine zp 1 38 (zm 9 3) ?_
   refine zp 2 39 (zm 9 7) ?_
   refine zp 3 40 (zm 9 15) ?_
   refine zp 4 41 (zm 9 31) ?_
   refine zp 5 42 (zm 9 63) ?_
   refine zp 6 43 (zm 9 127) ?_
   refine zp 7 44 (zm 9 255) ?_
   refine zp 8 8 (zm 9 511) ?_
   refine done_ (done_of HT_.out (by kernel_rfl)) ?_
   try go_wp2
   go_ret
   exact ⟨by first | rfl | (simp [errW_none, errW_some] <;> rfl) | (simp only [← hji30]; first | rfl | (simp [errW_none, errW_some] <;> rfl)) | (simp [*, errW_none, errW_some] <;> rfl), zB⟩
end
end Go.Proofs.YtndojpcjhkncgaaGreatDoor.Q
end

section

end
section
namespace Go.Proofs.YtndojpcjhkncgaaGreatDoor.Q
open Go Go.RowKit Go.Proofs.YtndojpcjhkncgaaGreatDoorW.PrintWords
section
theorem B_cut (s : List UInt8) (i : Nat) : (B s).extract 0 i = B (s.take i) := by
  unfold B
  apply ByteArray.ext
  simp [ByteArray.data_extract, List.extract]
theorem B_rest (s : List UInt8) (i : Nat) : (B s).extract i (B s).size = B (s.drop i) := by
  rw [B_size]
  unfold B
  apply ByteArray.ext
  simp [ByteArray.data_extract, List.extract]
  exact List.take_of_length_le (Nat.le_of_eq List.length_drop)
theorem B_one (c : Int) : strOfNums [c] = B [UInt8.ofNat c.toNat] := by rw [B_nums]; rfl
theorem insert_ev (s : List UInt8) (hs : s.length ≤ 4611686018427387904) (i : Nat) (hi : i ≤ s.length) (c : Int) : aL_change.f (B s) (i : Int) 1 c = some (B (s.take i ++ UInt8.ofNat c.toNat :: s.drop i)) := by
  have h1 : (s.take i).length + 1 + (s.drop i).length ≤ 9223372036854775807 := by rw [List.length_take, List.length_drop]; omega
  unfold aL_change.f
  rw [if_neg (by decide), if_pos rfl, if_pos (by omega), if_pos (by rw [B_size]; omega), Option.bind_some, show ((i : Int)).toNat = i from rfl, B_cut, B_rest, B_one, B_size (s.take i), B_size [UInt8.ofNat c.toNat], B_size (s.drop i), if_pos (by simp only [List.length_singleton]; omega), if_pos (by simp only [List.length_singleton]; omega), B_cat, B_cat]
  congr 2
  simp
theorem remove_ev (s : List UInt8) (hs : s.length ≤ 4611686018427387904) (i : Nat) (hi : i < s.length) (c : Int) : aL_change.f (B s) (i : Int) 2 c = some (B (s.take i ++ s.drop (i + 1))) := by
  have h1 : (s.take i).length + (s.drop (i + 1)).length ≤ 9223372036854775807 := by rw [List.length_take, List.length_drop]; omega
  unfold aL_change.f
  rw [if_neg (by decide), if_neg (by decide), if_pos (by omega), if_pos (by rw [B_size]; omega), show wrap64 ((i : Int) + 1) = ((i + 1 : Nat) : Int) from w64 (by omega) (by omega), if_pos (by omega), if_pos (by rw [B_size]; omega), show ((i : Int)).toNat = i from rfl, show (((i + 1 : Nat) : Int)).toNat = i + 1 from rfl, B_cut, B_rest, B_size (s.take i), B_size (s.drop (i + 1)), if_pos h1, B_cat]
theorem replace_ev (s : List UInt8) (hs : s.length ≤ 4611686018427387904) (i : Nat) (hi : i < s.length) (c : Int) : aL_change.f (B s) (i : Int) 0 c = some (B (s.take i ++ UInt8.ofNat c.toNat :: s.drop (i + 1))) := by
  have h1 : (s.take i).length + 1 + (s.drop (i + 1)).length ≤ 9223372036854775807 := by rw [List.length_take, List.length_drop]; omega
  unfold aL_change.f
  rw [if_pos rfl, if_pos (by omega), if_pos (by rw [B_size]; omega), Option.bind_some, show wrap64 ((i : Int) + 1) = ((i + 1 : Nat) : Int) from w64 (by omega) (by omega), show ((i : Int)).toNat = i from rfl, show (((i + 1 : Nat) : Int)).toNat = i + 1 from rfl, B_cut, B_rest, B_one, B_size (s.take i), B_size [UInt8.ofNat c.toNat], B_size (s.drop (i + 1)), if_pos (by simp only [List.length_singleton]; omega), if_pos (by omega), if_pos (by rw [B_size]; omega), if_pos (by simp only [List.length_singleton]; omega), B_cat, B_cat]
  congr 2
  simp
end
end Go.Proofs.YtndojpcjhkncgaaGreatDoor.Q
end
section
namespace Go.Proofs.YtndojpcjhkncgaaGreatDoor.Q
open Go.RowKit Go.Proofs.YtndojpcjhkncgaaGreatDoorW.PrintWords Go.Proofs.YtndojpcjhkncgaaGreatDoorW.PrintLast Go.Proofs.YtndojpcjhkncgaaGreatDoorW.PrintMore
section
def aR_pieces.l0 : Nat → ByteArray → Int → List ByteArray → Int → Int → Option (List ByteArray)
 | 0, _, _, _, _, _ => none
 | k + 1, x0, x1, x5, x6, x7 => if x7 < (x0.size : Int) then (if 0 ≤ x7 then (if (bt x0 x7) = x1 then (if 0 ≤ x6 then (if x6 ≤ x7 then (if x7 ≤ (x0.size : Int) then (if x5.length < 8796093022208 then (aR_pieces.l0 k x0 x1 (x5 ++ [x0.extract (x6 : Int).toNat (x7 : Int).toNat]) (wrap64 (x7 + 1)) (wrap64 (x7 + 1))) else (none)) else (none)) else (none)) else (none)) else (aR_pieces.l0 k x0 x1 x5 x6 (wrap64 (x7 + 1)))) else (none)) else (if 0 ≤ x6 then (if x6 ≤ (x0.size : Int) then (if x5.length < 8796093022208 then (some (x5 ++ [x0.extract (x6 : Int).toNat x0.size])) else (none)) else (none)) else (none))
def aR_pieces.f (k : Nat) (a0 : ByteArray) (a1 : Int) : Option (List ByteArray) := aR_pieces.l0 k a0 a1 ([] : List ByteArray) 0 0
set_option maxHeartbeats 8000000 in
set_option maxRecDepth 100000 in
theorem aR_pieces.calls (k : Nat) (a0 : ByteArray) (a1 : Int) (r : List ByteArray) (w : World) (h : aR_pieces.f k a0 a1 = some r) :
  Calls Tryz.prog 70 #[.string a0, .int .u8 a1] w fun e w' => ∃ v0_ : Value, e = .returned (v0_) ∧ Kd.R Kd.string 9 w' w.heap.size (fun _ => True) v0_ r ∧ Below w.heap.size w w' := by
 have HB := Zs.mk (Below.refl w.heap.size w); have H : (aR_pieces.l0 k a0 a1 ([] : List ByteArray) 0 0) = some r := h; clear h; have H' := Zs.mk H; clear H
 go_enter Tryz.func70, Tryz.ntmps70
 go_wp2
 go_loopg [5, 6, 7] k (fun kq v5 v6 v7 w' => ∃ (x5_1 : List ByteArray) (x6_1 : Int) (x7_1 : Int), v6 = .int .i64 x6_1 ∧ v7 = .int .i64 x7_1 ∧ Zs (aR_pieces.l0 kq a0 a1 x5_1 x6_1 x7_1 = some r) ∧ Zs (kq ≤ k) ∧ Zs (Kd.R Kd.string 9 w' w.heap.size (fun _ => True) v5 x5_1) ∧ Zs (Below w.heap.size w w'))
 case atStart => exact ⟨(([] : List ByteArray)), (0), (0), zs, zs, H', ⟨Nat.le_refl _⟩, ⟨by first | exact Kd.R_nil _ _ _ _ _ | exact Kd.N_nil _ _ _ _ _ | exact Kd.V_nil _ _ _ _ _ | exact Kd.Q_nil _ _ _ _ _ | exact Kd.S_nil _ _ _ _ _⟩, ⟨zB⟩⟩
 case round =>
  clear H'
  obtain ⟨x5_1, x6_1, x7_1, rfl, rfl, HA, HK1, HO_5, HB⟩ := hrel
  cases gk with
  | zero => exact absurd HA.out (by simp [aR_pieces.l0])
  | succ k1 =>
   have H := HA.out; clear HA
   simp only [aR_pieces.l0] at H
   by_cases c3 : x7_1 < (a0.size : Int)
   ·
    rw [if_pos c3] at H
    have c3b0 := decide_eq_true c3; clear c3
    have c4 := zc H
    rw [if_pos c4] at H
    have c4b0 := decide_eq_true c4; clear c4
    by_cases c6 : (bt a0 x7_1) = a1
    ·
     rw [if_pos c6] at H
     obtain ⟨c6b0, c6b1⟩ := zeq c6; clear c6
     have c7 := zc H
     rw [if_pos c7] at H
     have c7b0 := eq_true c7; have c7b1 := decide_eq_true c7; clear c7
     have c8 := zc H
     rw [if_pos c8] at H
     have c8b0 := eq_true c8; have c8b1 := decide_eq_true c8; clear c8
     have c9 := zc H
     rw [if_pos c9] at H
     have c9b0 := eq_true c9; have c9b1 := decide_eq_true c9; clear c9
     have c10 := zc H
     rw [if_pos c10] at H
     have LMc10 := Zs.mk c10; clear c10
     obtain ⟨y252, hy252⟩ : ∃ y_ : List ByteArray, y_ = (x5_1 ++ [a0.extract (x6_1 : Int).toNat (x7_1 : Int).toNat]) := ⟨_, rfl⟩
     replace H : (aR_pieces.l0 k1 a0 a1 y252 (wrap64 (x7_1 + 1)) (wrap64 (x7_1 + 1))) = some r := by first | (rw [hy252]; with_reducible exact H) | (have H2_ := (Option.bind_some _ _).symm.trans H; rw [hy252]; with_reducible exact H2_) | (have H2_ := (Option.bind_some _ _).symm.trans H; with_reducible exact H2_) | with_reducible exact H | (rw [hy252]; exact H) | exact H
     have Ny252 := Zs.mk hy252; clear hy252; have H' := Zs.mk H; clear H; have p5 : 0 ≤ (x7_1 : Int) := zD; have q5 : x7_1 < (a0.size : Int) := zD; have hx5 := bt_at a0 x7_1; replace p5 := eq_true p5; replace q5 := eq_true q5
     go_wp2_with (first | ((with_reducible refine gate_builtin (b := .append) (xs := #[.tmp 19, .tmp 24]) rfl ?_); at_builtin; refine Kd.R_append Kd.string (w0 := w) w.heap.size rfl (.tmp 19) (.tmp 24) 111 9 (.string ⟨#[]⟩) 16 rfl Tryz.underlying111 info9 rfl (by decide) (by omega) u5 x5_1 (a0.extract (x6_1 : Int).toNat (x7_1 : Int).toNat) [.string (a0.extract (x6_1 : Int).toNat (x7_1 : Int).toNat)] (fun _ => True) (fun _ => False) rfl rfl ?aP (fun _ hk => hk.elim) ?aF ?aO ?aB ?aS ?aL ?_; (case aP => exact rfl); (case aB => exact zB); (case aF => exact (fun _ _ => trivial)); (case aO => exact (zR HO_5)); (case aS => exact (bsz zB)); (case aL => have := LMc10.out; omega); intro v253 w11 ho hb hg hat; rw [← Ny252.out] at ho; replace HB := Zs.mk (hb); have HO254 := Zs.mk (ho); clear HO_5; clear ho hb hg hat))
     go_roundg k1
     case measure => have := HK1.out; omega
     case rel => exact ⟨(y252), (wrap64 (x7_1 + 1)), (wrap64 (x7_1 + 1)), zs, zs, H', ⟨by have := HK1.out; omega⟩, ⟨zR HO254⟩, ⟨zB⟩⟩
    ·
     rw [if_neg c6] at H
     obtain ⟨c6b0, c6b1⟩ := zne c6; have H' := Zs.mk H; clear H; have p5 : 0 ≤ (x7_1 : Int) := zD; have q5 : x7_1 < (a0.size : Int) := zD; have hx5 := bt_at a0 x7_1; replace p5 := eq_true p5; replace q5 := eq_true q5
     go_wp2
     go_roundg k1
     case measure => have := HK1.out; omega
     case rel => exact ⟨(x5_1), (x6_1), (wrap64 (x7_1 + 1)), zs, zs, H', ⟨by have := HK1.out; omega⟩, ⟨zR HO_5⟩, ⟨zB⟩⟩
   ·
    rw [if_neg c3] at H
    have c3b0 := decide_eq_false c3; clear c3
    have c12 := zc H
    rw [if_pos c12] at H
    have c12b0 := eq_true c12; have c12b1 := decide_eq_true c12; clear c12
    have c13 := zc H
    rw [if_pos c13] at H
    have c13b0 := eq_true c13; have c13b1 := decide_eq_true c13; clear c13
    have c14 := zc H
    rw [if_pos c14] at H
    have LMc14 := Zs.mk c14; clear c14
    obtain ⟨y255, hy255⟩ : ∃ y_ : List ByteArray, y_ = (x5_1 ++ [a0.extract (x6_1 : Int).toNat a0.size]) := ⟨_, rfl⟩
    replace H : (some y255) = some r := by first | (rw [hy255]; with_reducible exact H) | (have H2_ := (Option.bind_some _ _).symm.trans H; rw [hy255]; with_reducible exact H2_) | (have H2_ := (Option.bind_some _ _).symm.trans H; with_reducible exact H2_) | with_reducible exact H | (rw [hy255]; exact H) | exact H
    have Ny255 := Zs.mk hy255; clear hy255; obtain rfl := Option.some.inj H
    go_wp2_with (first | ((with_reducible refine gate_builtin (b := .append) (xs := #[.tmp 28, .tmp 32]) rfl ?_); at_builtin; refine Kd.R_append Kd.string (w0 := w) w.heap.size rfl (.tmp 28) (.tmp 32) 111 9 (.string ⟨#[]⟩) 16 rfl Tryz.underlying111 info9 rfl (by decide) (by omega) u5 x5_1 (a0.extract (x6_1 : Int).toNat a0.size) [.string (a0.extract (x6_1 : Int).toNat a0.size)] (fun _ => True) (fun _ => False) rfl rfl ?aP (fun _ hk => hk.elim) ?aF ?aO ?aB ?aS ?aL ?_; (case aP => exact rfl); (case aB => exact zB); (case aF => exact (fun _ _ => trivial)); (case aO => exact (zR HO_5)); (case aS => exact (bsz zB)); (case aL => have := LMc14.out; omega); intro v256 w15 ho hb hg hat; rw [← Ny255.out] at ho; replace HB := Zs.mk (hb); have HO257 := Zs.mk (ho); clear HO_5; clear ho hb hg hat))
    go_ret
    exact ⟨_, zE, zR HO257, zB⟩
end
section
mutual
def aR_numbers.j0 : Nat → List ByteArray → Bool → Option (List Int × Bool)
 | 0, _, _ => none
 | k + 1, x8, x26 => if x26 = true then (some (([] : List Int), false)) else (aR_numbers.l0 k x8 ([] : List Int) 1)
def aR_numbers.l0 : Nat → List ByteArray → List Int → Int → Option (List Int × Bool)
 | 0, _, _, _ => none
 | k + 1, x8, x9, x10 => if x10 < (x8.length : Int) then (aR_numbers.l1 k x8 x9 x10 0 0) else (some (x9, true))
def aR_numbers.l1 : Nat → List ByteArray → List Int → Int → Int → Int → Option (List Int × Bool)
 | 0, _, _, _, _, _ => none
 | k + 1, x8, x9, x10, x11, x12 => if 0 ≤ x10 then (if x10 < (x8.length : Int) then (if x12 < ((rdOf ByteArray.empty x8 x10).size : Int) then (if x12 > 13 then (aR_numbers.j3 k x8 x9 x10 x11 x12 true) else (if 0 ≤ x12 then (if (bt (rdOf ByteArray.empty x8 x10) x12) = 45 then (aR_numbers.j3 k x8 x9 x10 x11 x12 false) else (if (bt (rdOf ByteArray.empty x8 x10) x12) < 48 then (aR_numbers.j3 k x8 x9 x10 x11 x12 true) else (aR_numbers.j3 k x8 x9 x10 x11 x12 (decide ((bt (rdOf ByteArray.empty x8 x10) x12) > 57))))) else (none))) else (if ((rdOf ByteArray.empty x8 x10).size : Int) > 0 then (if 0 < ((rdOf ByteArray.empty x8 x10).size : Int) then (aR_numbers.j4 k x8 x9 x10 x11 ((bt (rdOf ByteArray.empty x8 x10) 0) == 45)) else (none)) else (aR_numbers.j4 k x8 x9 x10 x11 false))) else (none)) else (none)
def aR_numbers.j3 : Nat → List ByteArray → List Int → Int → Int → Int → Bool → Option (List Int × Bool)
 | 0, _, _, _, _, _, _ => none
 | k + 1, x8, x9, x10, x11, x12, x70 => if x70 = true then (some (([] : List Int), false)) else (if 0 ≤ x10 then (if x10 < (x8.length : Int) then (if 0 ≤ x12 then (if x12 < ((rdOf ByteArray.empty x8 x10).size : Int) then (if (bt (rdOf ByteArray.empty x8 x10) x12) = 45 then (aR_numbers.l1 k x8 x9 x10 x11 (wrap64 (x12 + 1))) else (aR_numbers.l1 k x8 x9 x10 (wrap64 ((wrap64 (10 * x11)) + (((bt (rdOf ByteArray.empty x8 x10) x12) - 48) % 256))) (wrap64 (x12 + 1)))) else (none)) else (none)) else (none)) else (none))
def aR_numbers.j4 : Nat → List ByteArray → List Int → Int → Int → Bool → Option (List Int × Bool)
 | 0, _, _, _, _, _ => none
 | k + 1, x8, x9, x10, x11, x102 => if x102 = true then (if (wrap64 (-x11)) < (-1099511627776) then (some (([] : List Int), false)) else (if (wrap64 (-x11)) > 1099511627776 then (some (([] : List Int), false)) else ((aR_decimal.f k (wrap64 (-x11))).bind fun t270 => (if 0 ≤ x10 then (if x10 < (x8.length : Int) then (if t270.toList = (rdOf ByteArray.empty x8 x10).toList then (if x9.length < 17592186044416 then (aR_numbers.l0 k x8 (x9 ++ [wrap64 (-x11)]) (wrap64 (x10 + 1))) else (none)) else (some (([] : List Int), false))) else (none)) else (none))))) else (if x11 < (-1099511627776) then (some (([] : List Int), false)) else (if x11 > 1099511627776 then (some (([] : List Int), false)) else ((aR_decimal.f k x11).bind fun t275 => (if 0 ≤ x10 then (if x10 < (x8.length : Int) then (if t275.toList = (rdOf ByteArray.empty x8 x10).toList then (if x9.length < 17592186044416 then (aR_numbers.l0 k x8 (x9 ++ [x11]) (wrap64 (x10 + 1))) else (none)) else (some (([] : List Int), false))) else (none)) else (none)))))
end
def aR_numbers.f (k : Nat) (a0 : ByteArray) (a1 : ByteArray) (a2 : Int) : Option (List Int × Bool) := (aR_pieces.f k a0 32).bind fun t258 => (if 0 < (t258.length : Int) then (if (rdOf ByteArray.empty t258 0).toList = a1.toList then (aR_numbers.j0 k t258 ((t258.length : Int) != (wrap64 (a2 + 1)))) else (aR_numbers.j0 k t258 true)) else (none))
def aR_numbers.T18 : Bool × List (List Nat × List Nat) := (true, [([], []), ([0], [0]), ([1], [1]), ([2], [2]), ([3, 2], [2, 3]), ([2, 4], [2, 4]), ([5, 2], [5]), ([6], [6]), ([7, 6, 6], [6, 7]), ([6], [6]), ([6], [6]), ([9, 10, 6], [6, 9, 10]), ([11, 6], [6, 11]), ([8, 12, 6], [6, 8, 12]), ([6, 13], [6, 13])])
def aR_numbers.B18 : List Nat := [0, 1, 3, 7, 15, 31, 63, 127, 255, 127, 127, 1663, 3711, 8191, 16383]
theorem aR_numbers.tab18 : rtab .any (opsOf Tryz.f71 18) = aR_numbers.T18 := by kernel_rfl
theorem aR_numbers.bits18 : waitsOk aR_numbers.T18.2 aR_numbers.B18 = true := by kernel_rfl
set_option maxHeartbeats 8000000 in
set_option maxRecDepth 100000 in
theorem aR_numbers.calls (k : Nat) (a0 : ByteArray) (a1 : ByteArray) (a2 : Int) (r1 : List Int) (r2 : Bool) (w : World) (h : aR_numbers.f k a0 a1 a2 = some (r1, r2)) :
  Calls Tryz.prog 71 #[.string a0, .string a1, .int .i64 a2] w fun e w' => ∃ v0_ : Value, e = .returned (.tuple #[v0_, .bool r2]) ∧ Kd.R (Kd.int .i64) 3 w' w.heap.size (fun _ => True) v0_ r1 ∧ Below w.heap.size w w' := by
 have HB := Zs.mk (Below.refl w.heap.size w); have H : ((aR_pieces.f k a0 32).bind fun t258 => (if 0 < (t258.length : Int) then (if (rdOf ByteArray.empty t258 0).toList = a1.toList then (aR_numbers.j0 k t258 ((t258.length : Int) != (wrap64 (a2 + 1)))) else (aR_numbers.j0 k t258 true)) else (none))) = some (r1, r2) := h; clear h; obtain ⟨t258, A4, H⟩ := zb H; (try dsimp only [-Int.reduceToNat] at H); have HC5 := Zs.mk H; clear H
 go_enter Tryz.func71, Tryz.ntmps71
 go_upto_region 2 with (first | ((with_reducible refine gkc (f := 70) rfl ?_); refine zgo (some 14) Tryz.func70 #[.string a0, .int .u8 32] ?_; (with_reducible refine (aR_pieces.calls k a0 32 t258 _ A4.out).mono ?_); rintro e w6 ⟨v259, rfl, ho0, hb⟩; refine ⟨_, rfl, ?_⟩; have HO260 := Zs.mk (Kd.R_lower ho0 (bsz zB)); replace HB := zBs hb))
 (try simp only [Act.put, List.setIfInBounds_toArray, List.set_cons_zero, List.set_cons_succ])
 go_cut [26] (fun v26 wc => ∃ (kq : Nat) (x26_4 : Bool), v26 = .bool x26_4 ∧ Zs (aR_numbers.j0 kq t258 x26_4 = some (r1, r2)) ∧ Zs (kq ≤ k) ∧ Zs (Kd.R Kd.string 9 wc w.heap.size (fun _ => True) v259 t258) ∧ Zs (Below w.heap.size w wc))
 case first =>
  have H := HC5.out; clear HC5
  have c7 := zc H
  rw [if_pos c7] at H
  have c7b0 := decide_eq_true c7; have c7b1 : decide (0 < t258.length) = true := decide_eq_true (by omega); clear c7
  (first | rw [c7b0] | (simp only [i64_w, i32_w]; rw [c7b0]) | skip)
  by_cases c8 : (rdOf ByteArray.empty t258 0).toList = a1.toList
  ·
   rw [if_pos c8] at H
   obtain ⟨c8b0, c8b1⟩ := zeq c8; clear c8; have H' := Zs.mk H; clear H; obtain ⟨Ao9, co9, eo9⟩ := Kd.R_slice HO260.out; subst eo9; have p261 : 0 ≤ (0 : Int) := (by omega); have q261 : 0 < (t258.length : Int) := zD; obtain ⟨ad261, e261, hx261_0⟩ := Kd.at_string (Kd.R_reads' HO260.out).2.2 0 p261 q261
   cases e261
   have qi261 : (0 < t258.length) = True := eq_true (by omega)
   (try rw [show ((0 : Int)).toNat = 0 from rfl] at hx261_0)
   (try rw [Addr.add_zero'] at hx261_0)
   replace p261 := eq_true p261; replace q261 := eq_true q261
   go_wp2
   go_meet
   case rel => exact ⟨_, (((t258.length : Int) != (wrap64 (a2 + 1)))), zs, H', ⟨by first | omega | exact Nat.le_refl _⟩, ⟨zR HO260⟩, ⟨zB⟩⟩
  ·
   rw [if_neg c8] at H
   obtain ⟨c8b0, c8b1⟩ := zne c8; have H' := Zs.mk H; clear H; obtain ⟨Ao10, co10, eo10⟩ := Kd.R_slice HO260.out; subst eo10; have p261 : 0 ≤ (0 : Int) := (by omega); have q261 : 0 < (t258.length : Int) := zD; obtain ⟨ad261, e261, hx261_0⟩ := Kd.at_string (Kd.R_reads' HO260.out).2.2 0 p261 q261
   cases e261
   have qi261 : (0 < t258.length) = True := eq_true (by omega)
   (try rw [show ((0 : Int)).toNat = 0 from rfl] at hx261_0)
   (try rw [Addr.add_zero'] at hx261_0)
   replace p261 := eq_true p261; replace q261 := eq_true q261
   go_wp2
   go_meet
   case rel => exact ⟨_, (true), zs, H', ⟨by first | omega | exact Nat.le_refl _⟩, ⟨zR HO260⟩, ⟨zB⟩⟩
 case rest =>
  clear HC5
  obtain ⟨kq, x26_4, rfl, HA, HJ4, HO_8, HB⟩ := hcut
  cases kq with
  | zero => exact absurd HA.out (by simp [aR_numbers.j0])
  | succ kj4 =>
   have H := HA.out; clear HA
   simp only [aR_numbers.j0] at H
   by_cases c11 : x26_4 = true
   ·
    subst c11
    rw [if_pos rfl] at H
    simp only [Option.some.injEq, Prod.mk.injEq] at H
    obtain ⟨rfl, rfl⟩ := H
    go_wp2
    go_ret2
    exact ⟨_, zE, by first | exact Kd.R_nil _ _ _ _ _ | exact Kd.N_nil _ _ _ _ _ | exact Kd.V_nil _ _ _ _ _ | exact Kd.Q_nil _ _ _ _ _ | exact Kd.S_nil _ _ _ _ _, zB⟩
   ·
    replace c11 := Bool.eq_false_iff.mpr c11; subst c11
    rw [if_neg (show ¬ (false = true) by decide)] at H
    have H' := Zs.mk H; clear H
    go_wp2
    go_loopg [9, 10] kj4 (fun kq v9 v10 w' => ∃ (x9_2 : List Int) (x10_2 : Int), v10 = .int .i64 x10_2 ∧ Zs (aR_numbers.l0 kq t258 x9_2 x10_2 = some (r1, r2)) ∧ Zs (kq ≤ kj4) ∧ Zs (Kd.R Kd.string 9 w' w.heap.size (fun _ => True) v259 t258) ∧ Zs (Kd.R (Kd.int .i64) 3 w' w.heap.size (fun _ => True) v9 x9_2) ∧ Zs (Below w.heap.size w w'))
    case atStart => exact ⟨(([] : List Int)), (1), zs, H', ⟨Nat.le_refl _⟩, ⟨zR HO_8⟩, ⟨by first | exact Kd.R_nil _ _ _ _ _ | exact Kd.N_nil _ _ _ _ _ | exact Kd.V_nil _ _ _ _ _ | exact Kd.Q_nil _ _ _ _ _ | exact Kd.S_nil _ _ _ _ _⟩, ⟨zB⟩⟩
    case round =>
     clear H'
     obtain ⟨x9_2, x10_2, rfl, HA, HK2, HO_8, HO_9, HB⟩ := hrel
     cases gk with
     | zero => exact absurd HA.out (by simp [aR_numbers.l0])
     | succ k2 =>
      have H := HA.out; clear HA
      simp only [aR_numbers.l0] at H
      by_cases c12 : x10_2 < (t258.length : Int)
      ·
       rw [if_pos c12] at H
       have c12b0 := decide_eq_true c12; clear c12; have H' := Zs.mk H; clear H; obtain ⟨Ao13, co13, eo13⟩ := Kd.R_slice HO_8.out; subst eo13
       go_wp2
       go_loopg [11, 12] k2 (fun kq v11 v12 w' => ∃ (x11_3 : Int) (x12_3 : Int), v11 = .int .i64 x11_3 ∧ v12 = .int .i64 x12_3 ∧ Zs (aR_numbers.l1 kq t258 x9_2 x10_2 x11_3 x12_3 = some (r1, r2)) ∧ Zs (kq ≤ k2) ∧ Zs (Kd.R Kd.string 9 w' w.heap.size (fun _ => True) (.slice Ao13 t258.length co13) t258) ∧ Zs (Kd.R (Kd.int .i64) 3 w' w.heap.size (fun _ => True) u9 x9_2) ∧ Zs (Below w.heap.size w w'))
       case atStart => exact ⟨(0), (0), zs, zs, H', ⟨Nat.le_refl _⟩, ⟨zR HO_8⟩, ⟨zR HO_9⟩, ⟨zB⟩⟩
       case round =>
        clear H'
        obtain ⟨x11_3, x12_3, rfl, rfl, HA, HK3, HO_8, HO_9, HB⟩ := hrel
        cases gk with
        | zero => exact absurd HA.out (by simp [aR_numbers.l1])
        | succ k3 =>
         have H := HA.out; clear HA
         simp only [aR_numbers.l1] at H
         have c14 := zc H
         rw [if_pos c14] at H
         have c14b0 := decide_eq_true c14; clear c14
         have c15 := zc H
         rw [if_pos c15] at H
         have c15b0 := decide_eq_true c15; clear c15
         by_cases c16 : x12_3 < ((rdOf ByteArray.empty t258 x10_2).size : Int)
         ·
          rw [if_pos c16] at H
          have c16b0 := decide_eq_true c16; clear c16; have HC17 := Zs.mk H; clear H; have p262 : 0 ≤ (x10_2 : Int) := zD; have q262 : x10_2 < (t258.length : Int) := zD; obtain ⟨ad262, e262, hx262_0⟩ := Kd.at_string (Kd.R_reads' HO_8.out).2.2 x10_2 p262 q262
          cases e262
          replace p262 := eq_true p262; replace q262 := eq_true q262
          go_upto_region 12 with (fail)
          go_cut [70] (fun v70 wc => ∃ (kq : Nat) (x70_16 : Bool), v70 = .bool x70_16 ∧ Zs (aR_numbers.j3 kq t258 x9_2 x10_2 x11_3 x12_3 x70_16 = some (r1, r2)) ∧ Zs (kq ≤ k3) ∧ Zs (Kd.R Kd.string 9 wc w.heap.size (fun _ => True) (.slice (some ad262) t258.length co13) t258) ∧ Zs (Kd.R (Kd.int .i64) 3 wc w.heap.size (fun _ => True) u9 x9_2) ∧ Zs (Below w.heap.size w wc))
          case first =>
           have H := HC17.out; clear HC17
           by_cases c18 : x12_3 > 13
           ·
            rw [if_pos c18] at H
            have c18b0 := decide_eq_true c18; clear c18
            (first | rw [c18b0] | (simp only [i64_w, i32_w]; rw [c18b0]) | skip)
            have H' := Zs.mk H; clear H
            go_wp2
            go_meet
            case rel => exact ⟨_, (true), zs, H', ⟨by have := HJ4.out; have := HK2.out; have := HK3.out; first | omega | exact Nat.le_refl _⟩, ⟨zR HO_8⟩, ⟨zR HO_9⟩, ⟨zB⟩⟩
           ·
            rw [if_neg c18] at H
            have c18b0 := decide_eq_false c18; clear c18
            (first | rw [c18b0] | (simp only [i64_w, i32_w]; rw [c18b0]) | skip)
            have c19 := zc H
            rw [if_pos c19] at H
            have c19b0 := decide_eq_true c19; clear c19
            by_cases c21 : (bt (rdOf ByteArray.empty t258 x10_2) x12_3) = 45
            ·
             rw [if_pos c21] at H
             obtain ⟨c21b0, c21b1⟩ := zeq c21; clear c21; have H' := Zs.mk H; clear H; have p263 : 0 ≤ (x10_2 : Int) := zD; have q263 : x10_2 < (t258.length : Int) := zD; obtain ⟨ad263, e263, hx263_0⟩ := Kd.at_string (Kd.R_reads' HO_8.out).2.2 x10_2 p263 q263; obtain rfl : ad262 = ad263 := (by injection e263); replace p263 := eq_true p263; replace q263 := eq_true q263; have p20 : 0 ≤ (x12_3 : Int) := zD; have q20 : x12_3 < ((rdOf ByteArray.empty t258 x10_2).size : Int) := zD; have hx20 := bt_at (rdOf ByteArray.empty t258 x10_2) x12_3; replace p20 := eq_true p20; replace q20 := eq_true q20
             go_wp2
             go_meet
             case rel => exact ⟨_, (false), zs, H', ⟨by have := HJ4.out; have := HK2.out; have := HK3.out; first | omega | exact Nat.le_refl _⟩, ⟨zR HO_8⟩, ⟨zR HO_9⟩, ⟨zB⟩⟩
            ·
             rw [if_neg c21] at H
             obtain ⟨c21b0, c21b1⟩ := zne c21
             by_cases c23 : (bt (rdOf ByteArray.empty t258 x10_2) x12_3) < 48
             ·
              rw [if_pos c23] at H
              have c23b0 := decide_eq_true c23; clear c23; have H' := Zs.mk H; clear H; have p263 : 0 ≤ (x10_2 : Int) := zD; have q263 : x10_2 < (t258.length : Int) := zD; obtain ⟨ad263, e263, hx263_0⟩ := Kd.at_string (Kd.R_reads' HO_8.out).2.2 x10_2 p263 q263; obtain rfl : ad262 = ad263 := (by injection e263); replace p263 := eq_true p263; replace q263 := eq_true q263; have p20 : 0 ≤ (x12_3 : Int) := zD; have q20 : x12_3 < ((rdOf ByteArray.empty t258 x10_2).size : Int) := zD; have hx20 := bt_at (rdOf ByteArray.empty t258 x10_2) x12_3; replace p20 := eq_true p20; replace q20 := eq_true q20; have p264 : 0 ≤ (x10_2 : Int) := zD; have q264 : x10_2 < (t258.length : Int) := zD; obtain ⟨ad264, e264, hx264_0⟩ := Kd.at_string (Kd.R_reads' HO_8.out).2.2 x10_2 p264 q264; obtain rfl : ad262 = ad264 := (by injection e264); replace p264 := eq_true p264; replace q264 := eq_true q264; have p22 : 0 ≤ (x12_3 : Int) := zD; have q22 : x12_3 < ((rdOf ByteArray.empty t258 x10_2).size : Int) := zD; have hx22 := bt_at (rdOf ByteArray.empty t258 x10_2) x12_3; replace p22 := eq_true p22; replace q22 := eq_true q22
              go_wp2
              go_meet
              case rel => exact ⟨_, (true), zs, H', ⟨by have := HJ4.out; have := HK2.out; have := HK3.out; first | omega | exact Nat.le_refl _⟩, ⟨zR HO_8⟩, ⟨zR HO_9⟩, ⟨zB⟩⟩
             ·
              rw [if_neg c23] at H
              have c23b0 := decide_eq_false c23; clear c23; have H' := Zs.mk H; clear H; have p263 : 0 ≤ (x10_2 : Int) := zD; have q263 : x10_2 < (t258.length : Int) := zD; obtain ⟨ad263, e263, hx263_0⟩ := Kd.at_string (Kd.R_reads' HO_8.out).2.2 x10_2 p263 q263; obtain rfl : ad262 = ad263 := (by injection e263); replace p263 := eq_true p263; replace q263 := eq_true q263; have p20 : 0 ≤ (x12_3 : Int) := zD; have q20 : x12_3 < ((rdOf ByteArray.empty t258 x10_2).size : Int) := zD; have hx20 := bt_at (rdOf ByteArray.empty t258 x10_2) x12_3; replace p20 := eq_true p20; replace q20 := eq_true q20; have p264 : 0 ≤ (x10_2 : Int) := zD; have q264 : x10_2 < (t258.length : Int) := zD; obtain ⟨ad264, e264, hx264_0⟩ := Kd.at_string (Kd.R_reads' HO_8.out).2.2 x10_2 p264 q264; obtain rfl : ad262 = ad264 := (by injection e264); replace p264 := eq_true p264; replace q264 := eq_true q264; have p22 : 0 ≤ (x12_3 : Int) := zD; have q22 : x12_3 < ((rdOf ByteArray.empty t258 x10_2).size : Int) := zD; have hx22 := bt_at (rdOf ByteArray.empty t258 x10_2) x12_3; replace p22 := eq_true p22; replace q22 := eq_true q22; have p265 : 0 ≤ (x10_2 : Int) := zD; have q265 : x10_2 < (t258.length : Int) := zD; obtain ⟨ad265, e265, hx265_0⟩ := Kd.at_string (Kd.R_reads' HO_8.out).2.2 x10_2 p265 q265; obtain rfl : ad262 = ad265 := (by injection e265); replace p265 := eq_true p265; replace q265 := eq_true q265; have p24 : 0 ≤ (x12_3 : Int) := zD; have q24 : x12_3 < ((rdOf ByteArray.empty t258 x10_2).size : Int) := zD; have hx24 := bt_at (rdOf ByteArray.empty t258 x10_2) x12_3; replace p24 := eq_true p24; replace q24 := eq_true q24
              go_wp2
              go_meet
              case rel => exact ⟨_, (decide ((bt (rdOf ByteArray.empty t258 x10_2) x12_3) > 57)), zs, H', ⟨by have := HJ4.out; have := HK2.out; have := HK3.out; first | omega | exact Nat.le_refl _⟩, ⟨zR HO_8⟩, ⟨zR HO_9⟩, ⟨zB⟩⟩
          case rest =>
           clear HC17
           obtain ⟨kq, x70_16, rfl, HA, HJ16, HO_8, HO_9, HB⟩ := hcut
           cases kq with
           | zero => exact absurd HA.out (by simp [aR_numbers.j3])
           | succ kj16 =>
            have H := HA.out; clear HA
            simp only [aR_numbers.j3] at H
            by_cases c25 : x70_16 = true
            ·
             subst c25
             rw [if_pos rfl] at H
             simp only [Option.some.injEq, Prod.mk.injEq] at H
             obtain ⟨rfl, rfl⟩ := H
             go_wp2
             go_ret2
             exact ⟨_, zE, by first | exact Kd.R_nil _ _ _ _ _ | exact Kd.N_nil _ _ _ _ _ | exact Kd.V_nil _ _ _ _ _ | exact Kd.Q_nil _ _ _ _ _ | exact Kd.S_nil _ _ _ _ _, zB⟩
            ·
             replace c25 := Bool.eq_false_iff.mpr c25; subst c25
             rw [if_neg (show ¬ (false = true) by decide)] at H
             have c26 := zc H
             rw [if_pos c26] at H
             have c26b0 := decide_eq_true c26; clear c26
             have c27 := zc H
             rw [if_pos c27] at H
             have c27b0 := decide_eq_true c27; clear c27
             have c28 := zc H
             rw [if_pos c28] at H
             have c28b0 := decide_eq_true c28; clear c28
             have c29 := zc H
             rw [if_pos c29] at H
             have c29b0 := decide_eq_true c29; clear c29
             by_cases c31 : (bt (rdOf ByteArray.empty t258 x10_2) x12_3) = 45
             ·
              rw [if_pos c31] at H
              obtain ⟨c31b0, c31b1⟩ := zeq c31; clear c31; have H' := Zs.mk H; clear H; have p266 : 0 ≤ (x10_2 : Int) := zD; have q266 : x10_2 < (t258.length : Int) := zD; obtain ⟨ad266, e266, hx266_0⟩ := Kd.at_string (Kd.R_reads' HO_8.out).2.2 x10_2 p266 q266; obtain rfl : ad262 = ad266 := (by injection e266); replace p266 := eq_true p266; replace q266 := eq_true q266; have p30 : 0 ≤ (x12_3 : Int) := zD; have q30 : x12_3 < ((rdOf ByteArray.empty t258 x10_2).size : Int) := zD; have hx30 := bt_at (rdOf ByteArray.empty t258 x10_2) x12_3; replace p30 := eq_true p30; replace q30 := eq_true q30
              go_wp2
              go_roundg kj16
              case measure => have := HJ4.out; have := HK2.out; have := HK3.out; have := HJ16.out; omega
              case rel => exact ⟨(x11_3), (wrap64 (x12_3 + 1)), zs, zs, H', ⟨by have := HJ4.out; have := HK2.out; have := HK3.out; have := HJ16.out; omega⟩, ⟨zR HO_8⟩, ⟨zR HO_9⟩, ⟨zB⟩⟩
             ·
              rw [if_neg c31] at H
              obtain ⟨c31b0, c31b1⟩ := zne c31; have H' := Zs.mk H; clear H; have p266 : 0 ≤ (x10_2 : Int) := zD; have q266 : x10_2 < (t258.length : Int) := zD; obtain ⟨ad266, e266, hx266_0⟩ := Kd.at_string (Kd.R_reads' HO_8.out).2.2 x10_2 p266 q266; obtain rfl : ad262 = ad266 := (by injection e266); replace p266 := eq_true p266; replace q266 := eq_true q266; have p30 : 0 ≤ (x12_3 : Int) := zD; have q30 : x12_3 < ((rdOf ByteArray.empty t258 x10_2).size : Int) := zD; have hx30 := bt_at (rdOf ByteArray.empty t258 x10_2) x12_3; replace p30 := eq_true p30; replace q30 := eq_true q30; have p267 : 0 ≤ (x10_2 : Int) := zD; have q267 : x10_2 < (t258.length : Int) := zD; obtain ⟨ad267, e267, hx267_0⟩ := Kd.at_string (Kd.R_reads' HO_8.out).2.2 x10_2 p267 q267; obtain rfl : ad262 = ad267 := (by injection e267); replace p267 := eq_true p267; replace q267 := eq_true q267; have p32 : 0 ≤ (x12_3 : Int) := zD; have q32 : x12_3 < ((rdOf ByteArray.empty t258 x10_2).size : Int) := zD; have hx32 := bt_at (rdOf ByteArray.empty t258 x10_2) x12_3; replace p32 := eq_true p32; replace q32 := eq_true q32
              go_wp2
              go_roundg kj16
              case measure => have := HJ4.out; have := HK2.out; have := HK3.out; have := HJ16.out; omega
              case rel => exact ⟨(wrap64 ((wrap64 (10 * x11_3)) + (((bt (rdOf ByteArray.empty t258 x10_2) x12_3) - 48) % 256))), (wrap64 (x12_3 + 1)), zs, zs, H', ⟨by have := HJ4.out; have := HK2.out; have := HK3.out; have := HJ16.out; omega⟩, ⟨zR HO_8⟩, ⟨zR HO_9⟩, ⟨zB⟩⟩
         ·
          rw [if_neg c16] at H
          have c16b0 := decide_eq_false c16; clear c16; have HC33 := Zs.mk H; clear H; have p262 : 0 ≤ (x10_2 : Int) := zD; have q262 : x10_2 < (t258.length : Int) := zD; obtain ⟨ad262, e262, hx262_0⟩ := Kd.at_string (Kd.R_reads' HO_8.out).2.2 x10_2 p262 q262
          cases e262
          replace p262 := eq_true p262; replace q262 := eq_true q262
          go_upto_region 16 with (fail)
          go_cut [102] (fun v102 wc => ∃ (kq : Nat) (x102_32 : Bool), v102 = .bool x102_32 ∧ Zs (aR_numbers.j4 kq t258 x9_2 x10_2 x11_3 x102_32 = some (r1, r2)) ∧ Zs (kq ≤ k3) ∧ Zs (Kd.R Kd.string 9 wc w.heap.size (fun _ => True) (.slice (some ad262) t258.length co13) t258) ∧ Zs (Kd.R (Kd.int .i64) 3 wc w.heap.size (fun _ => True) u9 x9_2) ∧ Zs (Below w.heap.size w wc))
          case first =>
           have H := HC33.out; clear HC33
           by_cases c34 : ((rdOf ByteArray.empty t258 x10_2).size : Int) > 0
           ·
            rw [if_pos c34] at H
            have c34b0 := decide_eq_true c34; have c34b1 : decide (0 < (rdOf ByteArray.empty t258 x10_2).size) = true := decide_eq_true (by omega); clear c34
            (first | rw [c34b0] | (simp only [i64_w, i32_w]; rw [c34b0]) | skip)
            have c35 := zc H
            rw [if_pos c35] at H
            have c35b0 := decide_eq_true c35; have c35b1 : decide (0 < (rdOf ByteArray.empty t258 x10_2).size) = true := decide_eq_true (by omega); clear c35; have H' := Zs.mk H; clear H; have p268 : 0 ≤ (x10_2 : Int) := zD; have q268 : x10_2 < (t258.length : Int) := zD; obtain ⟨ad268, e268, hx268_0⟩ := Kd.at_string (Kd.R_reads' HO_8.out).2.2 x10_2 p268 q268; obtain rfl : ad262 = ad268 := (by injection e268); replace p268 := eq_true p268; replace q268 := eq_true q268; have p269 : 0 ≤ (x10_2 : Int) := zD; have q269 : x10_2 < (t258.length : Int) := zD; obtain ⟨ad269, e269, hx269_0⟩ := Kd.at_string (Kd.R_reads' HO_8.out).2.2 x10_2 p269 q269; obtain rfl : ad262 = ad269 := (by injection e269); replace p269 := eq_true p269; replace q269 := eq_true q269; have p36 : 0 ≤ (0 : Int) := (by omega); have q36 : 0 < (rdOf ByteArray.empty t258 x10_2).size := (by have : (0 : Int) < ((rdOf ByteArray.empty t258 x10_2).size : Int) := zD; omega)
            have hx36 : ∀ h : 0 < (rdOf ByteArray.empty t258 x10_2).size, (((rdOf ByteArray.empty t258 x10_2)[0]'h).toNat : Int) = bt (rdOf ByteArray.empty t258 x10_2) 0 := bt_at (rdOf ByteArray.empty t258 x10_2) 0
            clear p36; have qi36 : (0 < ((rdOf ByteArray.empty t258 x10_2).size : Int)) = True := eq_true (zD); replace q36 := eq_true q36
            go_wp2
            go_meet
            case rel => exact ⟨_, (((bt (rdOf ByteArray.empty t258 x10_2) 0) == 45)), zs, H', ⟨by have := HJ4.out; have := HK2.out; have := HK3.out; first | omega | exact Nat.le_refl _⟩, ⟨zR HO_8⟩, ⟨zR HO_9⟩, ⟨zB⟩⟩
           ·
            rw [if_neg c34] at H
            have c34b0 := decide_eq_false c34; have c34b1 : decide (0 < (rdOf ByteArray.empty t258 x10_2).size) = false := decide_eq_false (by omega); clear c34
            (first | rw [c34b0] | (simp only [i64_w, i32_w]; rw [c34b0]) | skip)
            have H' := Zs.mk H; clear H; have p268 : 0 ≤ (x10_2 : Int) := zD; have q268 : x10_2 < (t258.length : Int) := zD; obtain ⟨ad268, e268, hx268_0⟩ := Kd.at_string (Kd.R_reads' HO_8.out).2.2 x10_2 p268 q268; obtain rfl : ad262 = ad268 := (by injection e268); replace p268 := eq_true p268; replace q268 := eq_true q268
            go_wp2
            go_meet
            case rel => exact ⟨_, (false), zs, H', ⟨by have := HJ4.out; have := HK2.out; have := HK3.out; first | omega | exact Nat.le_refl _⟩, ⟨zR HO_8⟩, ⟨zR HO_9⟩, ⟨zB⟩⟩
          case rest =>
           clear HC33
           obtain ⟨kq, x102_32, rfl, HA, HJ32, HO_8, HO_9, HB⟩ := hcut
           cases kq with
           | zero => exact absurd HA.out (by simp [aR_numbers.j4])
           | succ kj32 =>
            have H := HA.out; clear HA
            simp only [aR_numbers.j4] at H
            by_cases c37 : x102_32 = true
            ·
             subst c37
             rw [if_pos rfl] at H
             by_cases c38 : (wrap64 (-x11_3)) < (-1099511627776)
             ·
              rw [if_pos c38] at H
              have c38b0 := decide_eq_true c38; clear c38
              simp only [Option.some.injEq, Prod.mk.injEq] at H
              obtain ⟨rfl, rfl⟩ := H
              try go_wp2
              replace HO_8 := Zs.mk (Kd.Rdw HO_8.out); replace HO_9 := Zs.mk (Kd.Rdw HO_9.out); replace HB := Zs.mk (below_drew1 HB.out); 
              refine start_ (n := 15) (S := fun w' => True) (ds := []) (zo 15) (by kernel_rfl) rfl rfl trivial (fun hHeld => ?_); refine with_tabW aR_numbers.tab18 aR_numbers.bits18 (fun HT_ HW_ => ?_)
              generalize wc.drew = w39 at HO_8 HO_9 HB hHeld ⊢
              refine zp 0 105 (zm 15 1) ?_
              refine zp 1 106 (zm 15 3) ?_
              refine zp 2 107 (zm 15 7) ?_
              refine zpo 3 108 (zm 15 15) ?_
              refine zpo 4 109 (zm 15 31) ?_
              refine zp 5 110 (zm 15 63) ?_
              refine zp 6 111 (zm 15 127) ?_
              refine zpo 7 112 (zm 15 255) ?_
              refine zpo 8 113 (zm 15 511) ?_
              refine zpo 9 114 (zm 15 1023) ?_
              refine zpo 10 115 (zm 15 2047) ?_
              refine zpo 11 116 (zm 15 4095) ?_
              refine zpo 12 117 (zm 15 8191) ?_
              refine zpo 13 118 (zm 15 16383) ?_
              refine zp 14 119 (zm 15 32767) ?_
              refine done_ (done_of HT_.out (by kernel_rfl)) ?_
              try go_wp2
              go_ret2
              exact ⟨_, zE, by first | exact Kd.R_nil _ _ _ _ _ | exact Kd.N_nil _ _ _ _ _ | exact Kd.V_nil _ _ _ _ _ | exact Kd.Q_nil _ _ _ _ _ | exact Kd.S_nil _ _ _ _ _, zB⟩
             ·
              rw [if_neg c38] at H
              have c38b0 := decide_eq_false c38; clear c38
              by_cases c40 : (wrap64 (-x11_3)) > 1099511627776
              ·
               rw [if_pos c40] at H
               have c40b0 := decide_eq_true c40; clear c40
               simp only [Option.some.injEq, Prod.mk.injEq] at H
               obtain ⟨rfl, rfl⟩ := H
               try go_wp2
               replace HO_8 := Zs.mk (Kd.Rdw HO_8.out); replace HO_9 := Zs.mk (Kd.Rdw HO_9.out); replace HB := Zs.mk (below_drew1 HB.out); 
               refine start_ (n := 15) (S := fun w' => True) (ds := []) (zo 15) (by kernel_rfl) rfl rfl trivial (fun hHeld => ?_); refine with_tabW aR_numbers.tab18 aR_numbers.bits18 (fun HT_ HW_ => ?_)
               generalize wc.drew = w41 at HO_8 HO_9 HB hHeld ⊢
               refine zp 0 105 (zm 15 1) ?_
               refine zp 1 106 (zm 15 3) ?_
               refine zp 2 107 (zm 15 7) ?_
               refine zp 3 108 (zm 15 15) ?_
               refine zp 4 109 (zm 15 31) ?_
               refine zp 5 110 (zm 15 63) ?_
               refine zp 6 111 (zm 15 127) ?_
               refine zpo 7 112 (zm 15 255) ?_
               refine zpo 8 113 (zm 15 511) ?_
               refine zpo 9 114 (zm 15 1023) ?_
               refine zpo 10 115 (zm 15 2047) ?_
               refine zpo 11 116 (zm 15 4095) ?_
               refine zpo 12 117 (zm 15 8191) ?_
               refine zpo 13 118 (zm 15 16383) ?_
               refine zp 14 119 (zm 15 32767) ?_
               refine done_ (done_of HT_.out (by kernel_rfl)) ?_
               try go_wp2
               go_ret2
               exact ⟨_, zE, by first | exact Kd.R_nil _ _ _ _ _ | exact Kd.N_nil _ _ _ _ _ | exact Kd.V_nil _ _ _ _ _ | exact Kd.Q_nil _ _ _ _ _ | exact Kd.S_nil _ _ _ _ _, zB⟩
              ·
               rw [if_neg c40] at H
               have c40b0 := decide_eq_false c40; clear c40; obtain ⟨t270, A42, H⟩ := zb H; (try dsimp only [-Int.reduceToNat] at H)
               have c43 := zc H
               rw [if_pos c43] at H
               have c43b0 := decide_eq_true c43; clear c43
               have c44 := zc H
               rw [if_pos c44] at H
               have c44b0 := decide_eq_true c44; clear c44
               by_cases c45 : t270.toList = (rdOf ByteArray.empty t258 x10_2).toList
               ·
                rw [if_pos c45] at H
                obtain ⟨c45b0, c45b1⟩ := zeq c45; clear c45
                have c46 := zc H
                rw [if_pos c46] at H
                have LMc46 := Zs.mk c46; clear c46
                obtain ⟨y272, hy272⟩ : ∃ y_ : List Int, y_ = (x9_2 ++ [wrap64 (-x11_3)]) := ⟨_, rfl⟩
                replace H : (aR_numbers.l0 kj32 t258 y272 (wrap64 (x10_2 + 1))) = some (r1, r2) := by first | (rw [hy272]; with_reducible exact H) | (have H2_ := (Option.bind_some _ _).symm.trans H; rw [hy272]; with_reducible exact H2_) | (have H2_ := (Option.bind_some _ _).symm.trans H; with_reducible exact H2_) | with_reducible exact H | (rw [hy272]; exact H) | exact H
                have Ny272 := Zs.mk hy272; clear hy272; have H' := Zs.mk H; clear H
                try go_wp2
                replace HO_8 := Zs.mk (Kd.Rdw HO_8.out); replace HO_9 := Zs.mk (Kd.Rdw HO_9.out); replace HB := Zs.mk (below_drew1 HB.out); have p271 : 0 ≤ (x10_2 : Int) := zD; have q271 : x10_2 < (t258.length : Int) := zD; obtain ⟨ad271, e271, hx271_0⟩ := Kd.at_string (Kd.R_reads' HO_8.out).2.2 x10_2 p271 q271; obtain rfl : ad262 = ad271 := (by injection e271); replace p271 := eq_true p271; replace q271 := eq_true q271
                refine start_ (n := 15) (S := fun w' => w'.cell? (ad262.add (x10_2).toNat) = some (.string (rdOf ByteArray.empty t258 x10_2))) (ds := []) (zo 15) (by kernel_rfl) rfl rfl (hx271_0) (fun hHeld => ?_); refine with_tabW aR_numbers.tab18 aR_numbers.bits18 (fun HT_ HW_ => ?_)
                generalize wc.drew = w47 at HO_8 HO_9 HB hx271_0 hHeld ⊢
                refine zp 0 105 (zm 15 1) ?_
                refine zp 1 106 (zm 15 3) ?_
                refine zp 2 107 (zm 15 7) ?_
                refine zp 3 108 (zm 15 15) ?_
                refine zp 4 109 (zm 15 31) ?_
                refine zp 5 110 (zm 15 63) ?_
                refine zp 6 111 (zm 15 127) ?_
                refine zp 7 112 (zm 15 255) ?_
                refine zp 9 114 (zm 15 767) ?_
                refine zp 10 115 (zm 15 1791) ?_
                refine zp 11 116 (zm 15 3839) ?_
                refine take_ (i := 12) (N := some 117) (v := ?_) (a' := ?_) (zm 15 7935) rfl rfl (take_ofW HT_.out HW_.out (by kernel_rfl)) (fun _ _ _ h => h) (Or.inl ⟨by rfl, ?_⟩) hHeld ?_ ?_
                rotate_left
                · intro w' s0; go_simp; with_reducible rfl
                rotate_left
                · simp only [Act.put, z1, z2, z3, i64_w, i32_w]; rfl
                refine one_ (i := 8) (N := some 113) (zm 15 8191) rfl rfl (one_of HT_.out (by kernel_rfl)) (by decide) (fun K hK => ?_)
                refine goes_ Tryz.func58 (by kernel_rfl) rfl #[.int .i64 (wrap64 (-x11_3))] (by rfl) rfl rfl (by (try simp only [List.map_toArray, List.map_cons, List.map_nil]); try rfl) ?_
                with_reducible refine (aR_decimal.calls kj32 (wrap64 (-x11_3)) t270 _ A42.out).mono ?_
                rintro e w48 ⟨rfl, hb⟩
                have HS0_ := (hb.cell (World.block_lt_of_cell? _ _ (hHeld))).trans (hHeld)
                refine ⟨_, rfl, ?_⟩
                replace HO_8 := zRb HO_8 hb; replace HO_9 := zRb HO_9 hb; replace HB := zBs hb
                refine hK.out _ _ (HS0_) (fun hHeld => ?_)
                clear hK K
                refine norm_ (a' := ?_) ?_ ?_
                rotate_left
                ·
                 show Act.put _ (some 113) _ = _
                 simp only [Act.put, z1, z2, z3, i64_w, i32_w]
                 rfl
                refine zp 13 118 (zm 15 16383) ?_
                refine zp 14 119 (zm 15 32767) ?_
                refine done_ (done_of HT_.out (by kernel_rfl)) ?_
                try go_wp2_with (first | ((with_reducible refine gate_builtin (b := .append) (xs := #[.tmp 120, .tmp 122]) rfl ?_); (try (refine gate_guard (by rfl) ?_; dsimp only)); at_builtin; refine Kd.R_append (Kd.int .i64) (w0 := w) w.heap.size rfl (.tmp 120) (.tmp 122) 44 3 (.int .i64 0) 8 rfl Tryz.underlying44 info3 rfl (by decide) (by omega) u9 x9_2 (wrap64 (-x11_3)) [.int .i64 (wrap64 (-x11_3))] (fun _ => True) (fun _ => False) rfl rfl ?aP (fun _ hk => hk.elim) ?aF ?aO ?aB ?aS ?aL ?_; (case aP => exact rfl); (case aB => exact zB); (case aF => exact (fun _ _ => trivial)); (case aO => exact (zR HO_9)); (case aS => exact (bsz zB)); (case aL => have := LMc46.out; omega); intro v273 w49 ho hb hg hat; rw [← Ny272.out] at ho; replace HO_8 := Zs.mk (Kd.R_over' (zR HO_8) (Kd.Rtd (zR HO_9)) (by decide) hg); replace HB := Zs.mk (hb); have HO274 := Zs.mk (ho); clear HO_9; clear ho hb hg hat))
                go_roundg kj32
                case measure => have := HJ4.out; have := HK2.out; have := HK3.out; have := HJ32.out; omega
                case rel => exact ⟨(y272), (wrap64 (x10_2 + 1)), zs, H', ⟨by have := HJ4.out; have := HK2.out; have := HK3.out; have := HJ32.out; omega⟩, ⟨zR HO_8⟩, ⟨zR HO274⟩, ⟨zB⟩⟩
               ·
                rw [if_neg c45] at H
                obtain ⟨c45b0, c45b1⟩ := zne c45
                simp only [Option.some.injEq, Prod.mk.injEq] at H
                obtain ⟨rfl, rfl⟩ := H
                try go_wp2
                replace HO_8 := Zs.mk (Kd.Rdw HO_8.out); replace HO_9 := Zs.mk (Kd.Rdw HO_9.out); replace HB := Zs.mk (below_drew1 HB.out); have p271 : 0 ≤ (x10_2 : Int) := zD; have q271 : x10_2 < (t258.length : Int) := zD; obtain ⟨ad271, e271, hx271_0⟩ := Kd.at_string (Kd.R_reads' HO_8.out).2.2 x10_2 p271 q271; obtain rfl : ad262 = ad271 := (by injection e271); replace p271 := eq_true p271; replace q271 := eq_true q271
                refine start_ (n := 15) (S := fun w' => w'.cell? (ad262.add (x10_2).toNat) = some (.string (rdOf ByteArray.empty t258 x10_2))) (ds := []) (zo 15) (by kernel_rfl) rfl rfl (hx271_0) (fun hHeld => ?_); refine with_tabW aR_numbers.tab18 aR_numbers.bits18 (fun HT_ HW_ => ?_)
                generalize wc.drew = w50 at HO_8 HO_9 HB hx271_0 hHeld ⊢
                refine zp 0 105 (zm 15 1) ?_
                refine zp 1 106 (zm 15 3) ?_
                refine zp 2 107 (zm 15 7) ?_
                refine zp 3 108 (zm 15 15) ?_
                refine zp 4 109 (zm 15 31) ?_
                refine zp 5 110 (zm 15 63) ?_
                refine zp 6 111 (zm 15 127) ?_
                refine zp 7 112 (zm 15 255) ?_
                refine zp 9 114 (zm 15 767) ?_
                refine zp 10 115 (zm 15 1791) ?_
                refine zp 11 116 (zm 15 3839) ?_
                refine take_ (i := 12) (N := some 117) (v := ?_) (a' := ?_) (zm 15 7935) rfl rfl (take_ofW HT_.out HW_.out (by kernel_rfl)) (fun _ _ _ h => h) (Or.inl ⟨by rfl, ?_⟩) hHeld ?_ ?_
                rotate_left
                · intro w' s0; go_simp; with_reducible rfl
                rotate_left
                · simp only [Act.put, z1, z2, z3, i64_w, i32_w]; rfl
                refine one_ (i := 8) (N := some 113) (zm 15 8191) rfl rfl (one_of HT_.out (by kernel_rfl)) (by decide) (fun K hK => ?_)
                refine goes_ Tryz.func58 (by kernel_rfl) rfl #[.int .i64 (wrap64 (-x11_3))] (by rfl) rfl rfl (by (try simp only [List.map_toArray, List.map_cons, List.map_nil]); try rfl) ?_
                with_reducible refine (aR_decimal.calls kj32 (wrap64 (-x11_3)) t270 _ A42.out).mono ?_
                rintro e w51 ⟨rfl, hb⟩
                have HS0_ := (hb.cell (World.block_lt_of_cell? _ _ (hHeld))).trans (hHeld)
                refine ⟨_, rfl, ?_⟩
                replace HO_8 := zRb HO_8 hb; replace HO_9 := zRb HO_9 hb; replace HB := zBs hb
                refine hK.out _ _ (HS0_) (fun hHeld => ?_)
                clear hK K
                refine norm_ (a' := ?_) ?_ ?_
                rotate_left
                ·
                 show Act.put _ (some 113) _ = _
                 simp only [Act.put, z1, z2, z3, i64_w, i32_w]
                 rfl
                refine zp 13 118 (zm 15 16383) ?_
                refine zp 14 119 (zm 15 32767) ?_
                refine done_ (done_of HT_.out (by kernel_rfl)) ?_
                try go_wp2
                go_ret2
                exact ⟨_, zE, by first | exact Kd.R_nil _ _ _ _ _ | exact Kd.N_nil _ _ _ _ _ | exact Kd.V_nil _ _ _ _ _ | exact Kd.Q_nil _ _ _ _ _ | exact Kd.S_nil _ _ _ _ _, zB⟩
            ·
             replace c37 := Bool.eq_false_iff.mpr c37; subst c37
             rw [if_neg (show ¬ (false = true) by decide)] at H
             by_cases c52 : x11_3 < (-1099511627776)
             ·
              rw [if_pos c52] at H
              have c52b0 := decide_eq_true c52; clear c52
              simp only [Option.some.injEq, Prod.mk.injEq] at H
              obtain ⟨rfl, rfl⟩ := H
              try go_wp2
              replace HO_8 := Zs.mk (Kd.Rdw HO_8.out); replace HO_9 := Zs.mk (Kd.Rdw HO_9.out); replace HB := Zs.mk (below_drew1 HB.out); 
              refine start_ (n := 15) (S := fun w' => True) (ds := []) (zo 15) (by kernel_rfl) rfl rfl trivial (fun hHeld => ?_); refine with_tabW aR_numbers.tab18 aR_numbers.bits18 (fun HT_ HW_ => ?_)
              generalize wc.drew = w53 at HO_8 HO_9 HB hHeld ⊢
              refine zp 0 105 (zm 15 1) ?_
              refine zp 1 106 (zm 15 3) ?_
              refine zp 2 107 (zm 15 7) ?_
              refine zpo 3 108 (zm 15 15) ?_
              refine zpo 4 109 (zm 15 31) ?_
              refine zp 5 110 (zm 15 63) ?_
              refine zp 6 111 (zm 15 127) ?_
              refine zpo 7 112 (zm 15 255) ?_
              refine zpo 8 113 (zm 15 511) ?_
              refine zpo 9 114 (zm 15 1023) ?_
              refine zpo 10 115 (zm 15 2047) ?_
              refine zpo 11 116 (zm 15 4095) ?_
              refine zpo 12 117 (zm 15 8191) ?_
              refine zpo 13 118 (zm 15 16383) ?_
              refine zp 14 119 (zm 15 32767) ?_
              refine done_ (done_of HT_.out (by kernel_rfl)) ?_
              try go_wp2
              go_ret2
              exact ⟨_, zE, by first | exact Kd.R_nil _ _ _ _ _ | exact Kd.N_nil _ _ _ _ _ | exact Kd.V_nil _ _ _ _ _ | exact Kd.Q_nil _ _ _ _ _ | exact Kd.S_nil _ _ _ _ _, zB⟩
             ·
              rw [if_neg c52] at H
              have c52b0 := decide_eq_false c52; clear c52
              by_cases c54 : x11_3 > 1099511627776
              ·
               rw [if_pos c54] at H
               have c54b0 := decide_eq_true c54; clear c54
               simp only [Option.some.injEq, Prod.mk.injEq] at H
               obtain ⟨rfl, rfl⟩ := H
               try go_wp2
               replace HO_8 := Zs.mk (Kd.Rdw HO_8.out); replace HO_9 := Zs.mk (Kd.Rdw HO_9.out); replace HB := Zs.mk (below_drew1 HB.out); 
               refine start_ (n := 15) (S := fun w' => True) (ds := []) (zo 15) (by kernel_rfl) rfl rfl trivial (fun hHeld => ?_); refine with_tabW aR_numbers.tab18 aR_numbers.bits18 (fun HT_ HW_ => ?_)
               generalize wc.drew = w55 at HO_8 HO_9 HB hHeld ⊢
               refine zp 0 105 (zm 15 1) ?_
               refine zp 1 106 (zm 15 3) ?_
               refine zp 2 107 (zm 15 7) ?_
               refine zp 3 108 (zm 15 15) ?_
               refine zp 4 109 (zm 15 31) ?_
               refine zp 5 110 (zm 15 63) ?_
               refine zp 6 111 (zm 15 127) ?_
               refine zpo 7 112 (zm 15 255) ?_
               refine zpo 8 113 (zm 15 511) ?_
               refine zpo 9 114 (zm 15 1023) ?_
               refine zpo 10 115 (zm 15 2047) ?_
               refine zpo 11 116 (zm 15 4095) ?_
               refine zpo 12 117 (zm 15 8191) ?_
               refine zpo 13 118 (zm 15 16383) ?_
               refine zp 14 119 (zm 15 32767) ?_
               refine done_ (done_of HT_.out (by kernel_rfl)) ?_
               try go_wp2
               go_ret2
               exact ⟨_, zE, by first | exact Kd.R_nil _ _ _ _ _ | exact Kd.N_nil _ _ _ _ _ | exact Kd.V_nil _ _ _ _ _ | exact Kd.Q_nil _ _ _ _ _ | exact Kd.S_nil _ _ _ _ _, zB⟩
              ·
               rw [if_neg c54] at H
               have c54b0 := decide_eq_false c54; clear c54; obtain ⟨t275, A56, H⟩ := zb H; (try dsimp only [-Int.reduceToNat] at H)
               have c57 := zc H
               rw [if_pos c57] at H
               have c57b0 := decide_eq_true c57; clear c57
               have c58 := zc H
               rw [if_pos c58] at H
               have c58b0 := decide_eq_true c58; clear c58
               by_cases c59 : t275.toList = (rdOf ByteArray.empty t258 x10_2).toList
               ·
                rw [if_pos c59] at H
                obtain ⟨c59b0, c59b1⟩ := zeq c59; clear c59
                have c60 := zc H
                rw [if_pos c60] at H
                have LMc60 := Zs.mk c60; clear c60
                obtain ⟨y277, hy277⟩ : ∃ y_ : List Int, y_ = (x9_2 ++ [x11_3]) := ⟨_, rfl⟩
                replace H : (aR_numbers.l0 kj32 t258 y277 (wrap64 (x10_2 + 1))) = some (r1, r2) := by first | (rw [hy277]; with_reducible exact H) | (have H2_ := (Option.bind_some _ _).symm.trans H; rw [hy277]; with_reducible exact H2_) | (have H2_ := (Option.bind_some _ _).symm.trans H; with_reducible exact H2_) | with_reducible exact H | (rw [hy277]; exact H) | exact H
                have Ny277 := Zs.mk hy277; clear hy277; have H' := Zs.mk H; clear H
                try go_wp2
                replace HO_8 := Zs.mk (Kd.Rdw HO_8.out); replace HO_9 := Zs.mk (Kd.Rdw HO_9.out); replace HB := Zs.mk (below_drew1 HB.out); have p276 : 0 ≤ (x10_2 : Int) := zD; have q276 : x10_2 < (t258.length : Int) := zD; obtain ⟨ad276, e276, hx276_0⟩ := Kd.at_string (Kd.R_reads' HO_8.out).2.2 x10_2 p276 q276; obtain rfl : ad262 = ad276 := (by injection e276); replace p276 := eq_true p276; replace q276 := eq_true q276
                refine start_ (n := 15) (S := fun w' => w'.cell? (ad262.add (x10_2).toNat) = some (.string (rdOf ByteArray.empty t258 x10_2))) (ds := []) (zo 15) (by kernel_rfl) rfl rfl (hx276_0) (fun hHeld => ?_); refine with_tabW aR_numbers.tab18 aR_numbers.bits18 (fun HT_ HW_ => ?_)
                generalize wc.drew = w61 at HO_8 HO_9 HB hx276_0 hHeld ⊢
                refine zp 0 105 (zm 15 1) ?_
                refine zp 1 106 (zm 15 3) ?_
                refine zp 2 107 (zm 15 7) ?_
                refine zp 3 108 (zm 15 15) ?_
                refine zp 4 109 (zm 15 31) ?_
                refine zp 5 110 (zm 15 63) ?_
                refine zp 6 111 (zm 15 127) ?_
                refine zp 7 112 (zm 15 255) ?_
                refine zp 9 114 (zm 15 767) ?_
                refine zp 10 115 (zm 15 1791) ?_
                refine zp 11 116 (zm 15 3839) ?_
                refine take_ (i := 12) (N := some 117) (v := ?_) (a' := ?_) (zm 15 7935) rfl rfl (take_ofW HT_.out HW_.out (by kernel_rfl)) (fun _ _ _ h => h) (Or.inl ⟨by rfl, ?_⟩) hHeld ?_ ?_
                rotate_left
                · intro w' s0; go_simp; with_reducible rfl
                rotate_left
                · simp only [Act.put, z1, z2, z3, i64_w, i32_w]; rfl
                refine one_ (i := 8) (N := some 113) (zm 15 8191) rfl rfl (one_of HT_.out (by kernel_rfl)) (by decide) (fun K hK => ?_)
                refine goes_ Tryz.func58 (by kernel_rfl) rfl #[.int .i64 x11_3] (by rfl) rfl rfl (by (try simp only [List.map_toArray, List.map_cons, List.map_nil]); try rfl) ?_
                with_reducible refine (aR_decimal.calls kj32 x11_3 t275 _ A56.out).mono ?_
                rintro e w62 ⟨rfl, hb⟩
                have HS0_ := (hb.cell (World.block_lt_of_cell? _ _ (hHeld))).trans (hHeld)
                refine ⟨_, rfl, ?_⟩
                replace HO_8 := zRb HO_8 hb; replace HO_9 := zRb HO_9 hb; replace HB := zBs hb
                refine hK.out _ _ (HS0_) (fun hHeld => ?_)
                clear hK K
                refine norm_ (a' := ?_) ?_ ?_
                rotate_left
                ·
                 show Act.put _ (some 113) _ = _
                 simp only [Act.put, z1, z2, z3, i64_w, i32_w]
                 rfl
                refine zp 13 118 (zm 15 16383) ?_
                refine zp 14 119 (zm 15 32767) ?_
                refine done_ (done_of HT_.out (by kernel_rfl)) ?_
                try go_wp2_with (first | ((with_reducible refine gate_builtin (b := .append) (xs := #[.tmp 120, .tmp 122]) rfl ?_); (try (refine gate_guard (by rfl) ?_; dsimp only)); at_builtin; refine Kd.R_append (Kd.int .i64) (w0 := w) w.heap.size rfl (.tmp 120) (.tmp 122) 44 3 (.int .i64 0) 8 rfl Tryz.underlying44 info3 rfl (by decide) (by omega) u9 x9_2 x11_3 [.int .i64 x11_3] (fun _ => True) (fun _ => False) rfl rfl ?aP (fun _ hk => hk.elim) ?aF ?aO ?aB ?aS ?aL ?_; (case aP => exact rfl); (case aB => exact zB); (case aF => exact (fun _ _ => trivial)); (case aO => exact (zR HO_9)); (case aS => exact (bsz zB)); (case aL => have := LMc60.out; omega); intro v278 w63 ho hb hg hat; rw [← Ny277.out] at ho; replace HO_8 := Zs.mk (Kd.R_over' (zR HO_8) (Kd.Rtd (zR HO_9)) (by decide) hg); replace HB := Zs.mk (hb); have HO279 := Zs.mk (ho); clear HO_9; clear ho hb hg hat))
                go_roundg kj32
                case measure => have := HJ4.out; have := HK2.out; have := HK3.out; have := HJ32.out; omega
                case rel => exact ⟨(y277), (wrap64 (x10_2 + 1)), zs, H', ⟨by have := HJ4.out; have := HK2.out; have := HK3.out; have := HJ32.out; omega⟩, ⟨zR HO_8⟩, ⟨zR HO279⟩, ⟨zB⟩⟩
               ·
                rw [if_neg c59] at H
                obtain ⟨c59b0, c59b1⟩ := zne c59
                simp only [Option.some.injEq, Prod.mk.injEq] at H
                obtain ⟨rfl, rfl⟩ := H
                try go_wp2
                replace HO_8 := Zs.mk (Kd.Rdw HO_8.out); replace HO_9 := Zs.mk (Kd.Rdw HO_9.out); replace HB := Zs.mk (below_drew1 HB.out); have p276 : 0 ≤ (x10_2 : Int) := zD; have q276 : x10_2 < (t258.length : Int) := zD; obtain ⟨ad276, e276, hx276_0⟩ := Kd.at_string (Kd.R_reads' HO_8.out).2.2 x10_2 p276 q276; obtain rfl : ad262 = ad276 := (by injection e276); replace p276 := eq_true p276; replace q276 := eq_true q276
                refine start_ (n := 15) (S := fun w' => w'.cell? (ad262.add (x10_2).toNat) = some (.string (rdOf ByteArray.empty t258 x10_2))) (ds := []) (zo 15) (by kernel_rfl) rfl rfl (hx276_0) (fun hHeld => ?_); refine with_tabW aR_numbers.tab18 aR_numbers.bits18 (fun HT_ HW_ => ?_)
                generalize wc.drew = w64 at HO_8 HO_9 HB hx276_0 hHeld ⊢
                refine zp 0 105 (zm 15 1) ?_
                refine zp 1 106 (zm 15 3) ?_
                refine zp 2 107 (zm 15 7) ?_
                refine zp 3 108 (zm 15 15) ?_
                refine zp 4 109 (zm 15 31) ?_
                refine zp 5 110 (zm 15 63) ?_
                refine zp 6 111 (zm 15 127) ?_
                refine zp 7 112 (zm 15 255) ?_
                refine zp 9 114 (zm 15 767) ?_
                refine zp 10 115 (zm 15 1791) ?_
                refine zp 11 116 (zm 15 3839) ?_
                refine take_ (i := 12) (N := some 117) (v := ?_) (a' := ?_) (zm 15 7935) rfl rfl (take_ofW HT_.out HW_.out (by kernel_rfl)) (fun _ _ _ h => h) (Or.inl ⟨by rfl, ?_⟩) hHeld ?_ ?_
                rotate_left
                · intro w' s0; go_simp; with_reducible rfl
                rotate_left
                · simp only [Act.put, z1, z2, z3, i64_w, i32_w]; rfl
                refine one_ (i := 8) (N := some 113) (zm 15 8191) rfl rfl (one_of HT_.out (by kernel_rfl)) (by decide) (fun K hK => ?_)
                refine goes_ Tryz.func58 (by kernel_rfl) rfl #[.int .i64 x11_3] (by rfl) rfl rfl (by (try simp only [List.map_toArray, List.map_cons, List.map_nil]); try rfl) ?_
                with_reducible refine (aR_decimal.calls kj32 x11_3 t275 _ A56.out).mono ?_
                rintro e w65 ⟨rfl, hb⟩
                have HS0_ := (hb.cell (World.block_lt_of_cell? _ _ (hHeld))).trans (hHeld)
                refine ⟨_, rfl, ?_⟩
                replace HO_8 := zRb HO_8 hb; replace HO_9 := zRb HO_9 hb; replace HB := zBs hb
                refine hK.out _ _ (HS0_) (fun hHeld => ?_)
                clear hK K
                refine norm_ (a' := ?_) ?_ ?_
                rotate_left
                ·
                 show Act.put _ (some 113) _ = _
                 simp only [Act.put, z1, z2, z3, i64_w, i32_w]
                 rfl
                refine zp 13 118 (zm 15 16383) ?_
                refine zp 14 119 (zm 15 32767) ?_
                refine done_ (done_of HT_.out (by kernel_rfl)) ?_
                try go_wp2
                go_ret2
                exact ⟨_, zE, by first | exact Kd.R_nil _ _ _ _ _ | exact Kd.N_nil _ _ _ _ _ | exact Kd.V_nil _ _ _ _ _ | exact Kd.Q_nil _ _ _ _ _ | exact Kd.S_nil _ _ _ _ _, zB⟩
      ·
       rw [if_neg c12] at H
       have c12b0 := decide_eq_false c12; clear c12
       simp only [Option.some.injEq, Prod.mk.injEq] at H
       obtain ⟨rfl, rfl⟩ := H; obtain ⟨Ao66, co66, eo66⟩ := Kd.R_slice HO_8.out; subst eo66
       go_wp2
       go_ret2
       exact ⟨_, zE, zR HO_9, zB⟩
end
section
def aR_digits.l0 : Nat → ByteArray → Int → Option (Bool)
 | 0, _, _ => none
 | k + 1, x0, x3 => if x3 < (x0.size : Int) then (if 0 ≤ x3 then (if (bt x0 x3) < 48 then (if (bt x0 x3) < 97 then (some false) else (if (bt x0 x3) > 102 then (some false) else (aR_digits.l0 k x0 (wrap64 (x3 + 1))))) else (if (bt x0 x3) > 57 then (if (bt x0 x3) < 97 then (some false) else (if (bt x0 x3) > 102 then (some false) else (aR_digits.l0 k x0 (wrap64 (x3 + 1))))) else (aR_digits.l0 k x0 (wrap64 (x3 + 1))))) else (none)) else (some true)
def aR_digits.f (k : Nat) (a0 : ByteArray) : Option (Bool) := aR_digits.l0 k a0 0
set_option maxHeartbeats 8000000 in
set_option maxRecDepth 100000 in
theorem aR_digits.calls (k : Nat) (a0 : ByteArray) (r : Bool) (w : World) (h : aR_digits.f k a0 = some r) :
  Calls Tryz.prog 69 #[.string a0] w fun e w' => e = .returned (.bool r) ∧ Drawn0 w w' := by
 have H : (aR_digits.l0 k a0 0) = some r := h; clear h; have H' := Zs.mk H; clear H
 go_enter Tryz.func69, Tryz.ntmps69
 go_wp2
 go_loopg [3] k (fun kq v3 w' => ∃ (x3_1 : Int), v3 = .int .i64 x3_1 ∧ Zs (aR_digits.l0 kq a0 x3_1 = some r) ∧ Zs (kq ≤ k) ∧ Drawn0 w w')
 case atStart => exact ⟨(0), zs, H', ⟨Nat.le_refl _⟩, by repeat (first | exact Drawn0.refl _ | apply Drawn0.step)⟩
 case round =>
  clear H'; obtain ⟨x3_1, rfl, HA, HK1, ⟨m1, rfl⟩⟩ := hrel
  cases gk with
  | zero => exact absurd HA.out (by simp [aR_digits.l0])
  | succ k1 =>
   have H := HA.out; clear HA
   simp only [aR_digits.l0] at H
   by_cases c2 : x3_1 < (a0.size : Int)
   ·
    rw [if_pos c2] at H
    have c2b0 := decide_eq_true c2; clear c2
    have c3 := zc H
    rw [if_pos c3] at H
    have c3b0 := decide_eq_true c3; clear c3
    by_cases c5 : (bt a0 x3_1) < 48
    ·
     rw [if_pos c5] at H
     have c5b0 := decide_eq_true c5; clear c5
     by_cases c7 : (bt a0 x3_1) < 97
     ·
      rw [if_pos c7] at H
      have c7b0 := decide_eq_true c7; clear c7; obtain rfl := Option.some.inj H; have p4 : 0 ≤ (x3_1 : Int) := zD; have q4 : x3_1 < (a0.size : Int) := zD; have hx4 := bt_at a0 x3_1; replace p4 := eq_true p4; replace q4 := eq_true q4; have p6 : 0 ≤ (x3_1 : Int) := zD; have q6 : x3_1 < (a0.size : Int) := zD; have hx6 := bt_at a0 x3_1; replace p6 := eq_true p6; replace q6 := eq_true q6
      go_wp2
      go_ret
      exact ⟨by first | rfl | (simp; done) | (simp [*]; done), by repeat (first | exact Drawn0.refl _ | apply Drawn0.step)⟩
     ·
      rw [if_neg c7] at H
      have c7b0 := decide_eq_false c7; clear c7
      by_cases c9 : (bt a0 x3_1) > 102
      ·
       rw [if_pos c9] at H
       have c9b0 := decide_eq_true c9; clear c9; obtain rfl := Option.some.inj H; have p4 : 0 ≤ (x3_1 : Int) := zD; have q4 : x3_1 < (a0.size : Int) := zD; have hx4 := bt_at a0 x3_1; replace p4 := eq_true p4; replace q4 := eq_true q4; have p6 : 0 ≤ (x3_1 : Int) := zD; have q6 : x3_1 < (a0.size : Int) := zD; have hx6 := bt_at a0 x3_1; replace p6 := eq_true p6; replace q6 := eq_true q6; have p8 : 0 ≤ (x3_1 : Int) := zD; have q8 : x3_1 < (a0.size : Int) := zD; have hx8 := bt_at a0 x3_1; replace p8 := eq_true p8; replace q8 := eq_true q8
       go_wp2
       go_ret
       exact ⟨by first | rfl | (simp; done) | (simp [*]; done), by repeat (first | exact Drawn0.refl _ | apply Drawn0.step)⟩
      ·
       rw [if_neg c9] at H
       have c9b0 := decide_eq_false c9; clear c9; have H' := Zs.mk H; clear H; have p4 : 0 ≤ (x3_1 : Int) := zD; have q4 : x3_1 < (a0.size : Int) := zD; have hx4 := bt_at a0 x3_1; replace p4 := eq_true p4; replace q4 := eq_true q4; have p6 : 0 ≤ (x3_1 : Int) := zD; have q6 : x3_1 < (a0.size : Int) := zD; have hx6 := bt_at a0 x3_1; replace p6 := eq_true p6; replace q6 := eq_true q6; have p8 : 0 ≤ (x3_1 : Int) := zD; have q8 : x3_1 < (a0.size : Int) := zD; have hx8 := bt_at a0 x3_1; replace p8 := eq_true p8; replace q8 := eq_true q8
       go_wp2
       go_roundg k1
       case measure => have := HK1.out; omega
       case rel => exact ⟨(wrap64 (x3_1 + 1)), zs, H', ⟨by have := HK1.out; omega⟩, by repeat (first | exact Drawn0.refl _ | apply Drawn0.step)⟩
    ·
     rw [if_neg c5] at H
     have c5b0 := decide_eq_false c5; clear c5
     by_cases c11 : (bt a0 x3_1) > 57
     ·
      rw [if_pos c11] at H
      have c11b0 := decide_eq_true c11; clear c11
      by_cases c13 : (bt a0 x3_1) < 97
      ·
       rw [if_pos c13] at H
       have c13b0 := decide_eq_true c13; clear c13; obtain rfl := Option.some.inj H; have p4 : 0 ≤ (x3_1 : Int) := zD; have q4 : x3_1 < (a0.size : Int) := zD; have hx4 := bt_at a0 x3_1; replace p4 := eq_true p4; replace q4 := eq_true q4; have p10 : 0 ≤ (x3_1 : Int) := zD; have q10 : x3_1 < (a0.size : Int) := zD; have hx10 := bt_at a0 x3_1; replace p10 := eq_true p10; replace q10 := eq_true q10; have p12 : 0 ≤ (x3_1 : Int) := zD; have q12 : x3_1 < (a0.size : Int) := zD; have hx12 := bt_at a0 x3_1; replace p12 := eq_true p12; replace q12 := eq_true q12
       go_wp2
       go_ret
       exact ⟨by first | rfl | (simp; done) | (simp [*]; done), by repeat (first | exact Drawn0.refl _ | apply Drawn0.step)⟩
      ·
       rw [if_neg c13] at H
       have c13b0 := decide_eq_false c13; clear c13
       by_cases c15 : (bt a0 x3_1) > 102
       ·
        rw [if_pos c15] at H
        have c15b0 := decide_eq_true c15; clear c15; obtain rfl := Option.some.inj H; have p4 : 0 ≤ (x3_1 : Int) := zD; have q4 : x3_1 < (a0.size : Int) := zD; have hx4 := bt_at a0 x3_1; replace p4 := eq_true p4; replace q4 := eq_true q4; have p10 : 0 ≤ (x3_1 : Int) := zD; have q10 : x3_1 < (a0.size : Int) := zD; have hx10 := bt_at a0 x3_1; replace p10 := eq_true p10; replace q10 := eq_true q10; have p12 : 0 ≤ (x3_1 : Int) := zD; have q12 : x3_1 < (a0.size : Int) := zD; have hx12 := bt_at a0 x3_1; replace p12 := eq_true p12; replace q12 := eq_true q12; have p14 : 0 ≤ (x3_1 : Int) := zD; have q14 : x3_1 < (a0.size : Int) := zD; have hx14 := bt_at a0 x3_1; replace p14 := eq_true p14; replace q14 := eq_true q14
        go_wp2
        go_ret
        exact ⟨by first | rfl | (simp; done) | (simp [*]; done), by repeat (first | exact Drawn0.refl _ | apply Drawn0.step)⟩
       ·
        rw [if_neg c15] at H
        have c15b0 := decide_eq_false c15; clear c15; have H' := Zs.mk H; clear H; have p4 : 0 ≤ (x3_1 : Int) := zD; have q4 : x3_1 < (a0.size : Int) := zD; have hx4 := bt_at a0 x3_1; replace p4 := eq_true p4; replace q4 := eq_true q4; have p10 : 0 ≤ (x3_1 : Int) := zD; have q10 : x3_1 < (a0.size : Int) := zD; have hx10 := bt_at a0 x3_1; replace p10 := eq_true p10; replace q10 := eq_true q10; have p12 : 0 ≤ (x3_1 : Int) := zD; have q12 : x3_1 < (a0.size : Int) := zD; have hx12 := bt_at a0 x3_1; replace p12 := eq_true p12; replace q12 := eq_true q12; have p14 : 0 ≤ (x3_1 : Int) := zD; have q14 : x3_1 < (a0.size : Int) := zD; have hx14 := bt_at a0 x3_1; replace p14 := eq_true p14; replace q14 := eq_true q14
        go_wp2
        go_roundg k1
        case measure => have := HK1.out; omega
        case rel => exact ⟨(wrap64 (x3_1 + 1)), zs, H', ⟨by have := HK1.out; omega⟩, by repeat (first | exact Drawn0.refl _ | apply Drawn0.step)⟩
     ·
      rw [if_neg c11] at H
      have c11b0 := decide_eq_false c11; clear c11; have H' := Zs.mk H; clear H; have p4 : 0 ≤ (x3_1 : Int) := zD; have q4 : x3_1 < (a0.size : Int) := zD; have hx4 := bt_at a0 x3_1; replace p4 := eq_true p4; replace q4 := eq_true q4; have p10 : 0 ≤ (x3_1 : Int) := zD; have q10 : x3_1 < (a0.size : Int) := zD; have hx10 := bt_at a0 x3_1; replace p10 := eq_true p10; replace q10 := eq_true q10
      go_wp2
      go_roundg k1
      case measure => have := HK1.out; omega
      case rel => exact ⟨(wrap64 (x3_1 + 1)), zs, H', ⟨by have := HK1.out; omega⟩, by repeat (first | exact Drawn0.refl _ | apply Drawn0.step)⟩
   ·
    rw [if_neg c2] at H
    have c2b0 := decide_eq_false c2; clear c2; obtain rfl := Option.some.inj H
    go_wp2
    go_ret
    exact ⟨by first | rfl | (simp; done) | (simp [*]; done), by repeat (first | exact Drawn0.refl _ | apply Drawn0.step)⟩
end
end Go.Proofs.YtndojpcjhkncgaaGreatDoor.Q
end
section
namespace Go.Proofs.YtndojpcjhkncgaaGreatDoor.Q
open Go Go.RowKit Go.Proofs.YtndojpcjhkncgaaGreatDoorW.PrintWords
section
theorem B_mid (l : List UInt8) (a b : Nat) : (B l).extract a b = B ((l.drop a).take (b - a)) := by
  unfold B
  apply ByteArray.ext
  simp [ByteArray.data_extract, List.extract]
theorem pieces_l0 (l : List UInt8) (c : UInt8) (hl : l.length ≤ 4398046511104) (d : Nat) : ∀ (i j : Nat) (out : List ByteArray), i + d = l.length → j ≤ i → out.length ≤ i → (∀ x ∈ (l.drop j).take (i - j), x ≠ c) →
    Ev (fun k => aR_pieces.l0 k (B l) (c.toNat : Int) out (j : Int) (i : Int)) (out ++ (wordsL c (l.drop j)).map B) := by
  induction d with
  | zero =>
    intro i j out hi hj ho hx
    refine Ev.step (fun k => by rw [aR_pieces.l0]) (Ev.neg (by rw [B_size]; omega) (Ev.pos (by omega) (Ev.pos (by rw [B_size]; omega) (Ev.pos (by omega) (Ev.ret ?_)))))
    have hno : c ∉ l.drop j := by
      rw [List.take_of_length_le (by rw [List.length_drop]; omega)] at hx
      exact fun h => hx c h rfl
    rw [words_one c _ hno, show ((j : Int)).toNat = j from rfl, B_size, B_mid, List.take_of_length_le (Nat.le_of_eq List.length_drop)]
    rfl
  | succ d ih =>
    intro i j out hi hj ho hx
    have hlt : i < l.length := by omega
    refine Ev.step (fun k => by rw [aR_pieces.l0]) (Ev.pos (by rw [B_size]; omega) (Ev.pos (by omega) ?_))
    rw [B_bt l i hlt, w64 (n := (i : Int) + 1) (by omega) (by omega)]
    by_cases hc : (l[i].toNat : Int) = (c.toNat : Int)
    · have hce : l[i] = c := UInt8.toNat_inj.1 (by omega)
      refine Ev.pos hc (Ev.pos (by omega) (Ev.pos (by omega) (Ev.pos (by rw [B_size]; omega) (Ev.pos (by omega) ?_))))
      refine Ev.eq (ih (i + 1) (i + 1) _ (by omega) (Nat.le_refl _) (by rw [List.length_append]; simp; omega) (by simp)) ?_
      have hsplit : l.drop j = (l.drop j).take (i - j) ++ c :: l.drop (i + 1) := by
        have h1 : (l.drop j).drop (i - j) = l.drop i := by rw [List.drop_drop]; congr 1; omega
        rw [← hce, ← List.drop_eq_getElem_cons hlt, ← h1, List.take_append_drop]
      have hw : wordsL c (l.drop j) = (l.drop j).take (i - j) :: wordsL c (l.drop (i + 1)) := by
        rw [hsplit]
        have h2 : ((l.drop j).take (i - j) ++ c :: l.drop (i + 1)).take (i - j) = (l.drop j).take (i - j) := by rw [← hsplit]
        rw [h2]
        exact words_cat c _ _ (fun h => hx c h rfl)
      rw [hw, List.map_cons, show ((j : Int)).toNat = j from rfl, show ((i : Int)).toNat = i from rfl, B_mid, List.append_assoc]
      rfl
    · refine Ev.neg hc (ih (i + 1) j out (by omega) (by omega) (by omega) ?_)
      intro x hxm
      have h1 : (l.drop j).take (i + 1 - j) = (l.drop j).take (i - j) ++ [l[i]] := by
        rw [show i + 1 - j = (i - j) + 1 by omega, List.take_add_one, List.getElem?_drop, show j + (i - j) = i by omega, List.getElem?_eq_getElem hlt]
        rfl
      rw [h1] at hxm
      rcases List.mem_append.mp hxm with h | h
      · exact hx x h
      · rw [List.mem_singleton.mp h]
        intro e
        rw [e] at hc
        exact hc rfl
theorem pieces_ev (l : List UInt8) (c : UInt8) (hl : l.length ≤ 4398046511104) : Ev (fun k => aR_pieces.f k (B l) (c.toNat : Int)) ((wordsL c l).map B) := by
  unfold aR_pieces.f
  exact Ev.eq (pieces_l0 l c hl l.length 0 0 [] (by omega) (Nat.le_refl _) (Nat.le_refl _) (by simp)) (by simp)
theorem hexB_fin : ∀ n : Fin 256, (hexB (UInt8.ofNat n.val) = true ↔ (48 ≤ n.val ∧ n.val ≤ 57) ∨ (97 ≤ n.val ∧ n.val ≤ 102)) := by decide +kernel
theorem hexB_iff (b : UInt8) : hexB b = true ↔ (48 ≤ b.toNat ∧ b.toNat ≤ 57) ∨ (97 ≤ b.toNat ∧ b.toNat ≤ 102) := by
  have h := hexB_fin ⟨b.toNat, b.toNat_lt⟩
  simpa using h
theorem digits_l0 (l : List UInt8) (hl : l.length ≤ 4398046511104) (d : Nat) : ∀ (i : Nat), i + d = l.length → Ev (fun k => aR_digits.l0 k (B l) (i : Int)) ((l.drop i).all hexB) := by
  induction d with
  | zero =>
    intro i hi
    rw [List.drop_eq_nil_of_le (by omega)]
    show Ev (fun k => aR_digits.l0 k (B l) (i : Int)) true
    exact Ev.step (fun k => by rw [aR_digits.l0]) (Ev.neg (by rw [B_size]; omega) (Ev.now true))
  | succ d ih =>
    intro i hi
    have hlt : i < l.length := by omega
    have hx := hexB_iff l[i]
    rw [drop_get l i hlt, List.all_cons]
    refine Ev.step (fun k => by rw [aR_digits.l0]) (Ev.pos (by rw [B_size]; omega) (Ev.pos (by omega) ?_))
    rw [B_bt l i hlt, w64 (n := (i : Int) + 1) (by omega) (by omega)]
    have hbad : ¬ ((48 ≤ l[i].toNat ∧ l[i].toNat ≤ 57) ∨ (97 ≤ l[i].toNat ∧ l[i].toNat ≤ 102)) → hexB l[i] = false := fun h => by
      cases hh : hexB l[i] with
      | false => rfl
      | true => exact absurd (hx.mp hh) h
    have hgood : ((48 ≤ l[i].toNat ∧ l[i].toNat ≤ 57) ∨ (97 ≤ l[i].toNat ∧ l[i].toNat ≤ 102)) → Ev (fun k => aR_digits.l0 k (B l) ((i : Int) + 1)) (hexB l[i] && (l.drop (i + 1)).all hexB) := fun h => by
      rw [hx.mpr h, Bool.true_and]
      exact ih (i + 1) (by omega)
    by_cases h1 : (l[i].toNat : Int) < 48
    · refine Ev.pos h1 ?_
      rw [hbad (by omega), Bool.false_and]
      exact Ev.pos (by omega) (Ev.now false)
    · refine Ev.neg h1 ?_
      by_cases h2 : (l[i].toNat : Int) > 57
      · refine Ev.pos h2 ?_
        by_cases h3 : (l[i].toNat : Int) < 97
        · rw [hbad (by omega), Bool.false_and]
          exact Ev.pos h3 (Ev.now false)
        · refine Ev.neg h3 ?_
          by_cases h4 : (l[i].toNat : Int) > 102
          · rw [hbad (by omega), Bool.false_and]
            exact Ev.pos h4 (Ev.now false)
          · exact Ev.neg h4 (hgood (by omega))
      · exact Ev.neg h2 (hgood (by omega))
theorem digits_ev (l : List UInt8) (hl : l.length ≤ 4398046511104) : Ev (fun k => aR_digits.f k (B l)) (l.all hexB) := by
  unfold aR_digits.f
  exact digits_l0 l hl l.length 0 (by omega)
def valF : List UInt8 → Nat → Nat
  | [], a => a
  | c :: l, a => valF l (if c = 45 then a else 10 * a + (c.toNat - 48))
def signByte (c : UInt8) : Bool := decide (c = 45) || (decide (48 ≤ c.toNat) && decide (c.toNat ≤ 57))
theorem valF_append : ∀ (a b : List UInt8) (n : Nat), valF (a ++ b) n = valF b (valF a n)
  | [], b, n => rfl
  | c :: a, b, n => by rw [List.cons_append, valF, valF, valF_append a b]
theorem valF_dec (u : Nat) : valF (Lib.decDigits u) 0 = u := by
  induction u using Nat.strongRecOn with
  | ind u ih =>
    have one : ∀ d a, d < 10 → valF [UInt8.ofNat (48 + d)] a = 10 * a + d := by
      intro d a hd
      have h1 := digit_nat d hd
      have h2 : UInt8.ofNat (48 + d) ≠ 45 := fun e => by
        have : (UInt8.ofNat (48 + d)).toNat = 45 := by rw [e]; rfl
        omega
      rw [valF, if_neg h2, valF, h1]
      omega
    by_cases h : u < 10
    · rw [dec_small u h, one u 0 h]
      omega
    · rw [dec_big u h, valF_append, ih (u / 10) (by omega), one _ _ (by omega)]
      omega
theorem valF_lt : ∀ (l : List UInt8) (a : Nat), (∀ c ∈ l, signByte c = true) → valF l a < (a + 1) * 10 ^ l.length
  | [], a, _ => by simp [valF]
  | c :: l, a, h => by
    rw [valF]
    have h1 := valF_lt l (if c = 45 then a else 10 * a + (c.toNat - 48)) (fun x hx => h x (List.mem_cons_of_mem _ hx))
    have h2 := h c List.mem_cons_self
    unfold signByte at h2
    have h3 : (if c = 45 then a else 10 * a + (c.toNat - 48)) + 1 ≤ (a + 1) * 10 := by
      by_cases hc : c = 45
      · rw [if_pos hc]; omega
      · rw [if_neg hc]
        rw [decide_eq_false hc, Bool.false_or, Bool.and_eq_true, decide_eq_true_iff, decide_eq_true_iff] at h2
        omega
    calc valF l _ < (_ + 1) * 10 ^ l.length := h1
      _ ≤ ((a + 1) * 10) * 10 ^ l.length := Nat.mul_le_mul_right _ h3
      _ = (a + 1) * 10 ^ (c :: l).length := by rw [List.length_cons, Nat.pow_succ, Nat.mul_assoc, Nat.mul_comm 10]
def wordN (x : List UInt8) : Int := if x.head? = some 45 then -(valF x 0 : Int) else (valF x 0 : Int)
def wordR (x : List UInt8) : Option Int := if x.length ≤ 14 ∧ x.all signByte = true ∧ numIn (wordN x) = true ∧ Lib.itoa (wordN x) = x then some (wordN x) else none
theorem itoa_len14 (v : Int) (h : numIn v = true) : (Lib.itoa v).length ≤ 14 := by
  obtain ⟨h1, h2⟩ := (numIn_iff v).mp h
  have hd : ∀ (n u : Nat), u < 10 ^ (n + 1) → (Lib.decDigits u).length ≤ n + 1 := by
    intro n
    induction n with
    | zero => intro u hu; rw [dec_small u (by omega)]; exact Nat.le_refl _
    | succ n ih =>
      intro u hu
      by_cases h : u < 10
      · rw [dec_small u h]; simp
      · rw [dec_big u h, List.length_append, List.length_singleton]
        have := ih (u / 10) (by rw [Nat.pow_succ] at hu; omega)
        omega
  have h13 : ∀ u : Nat, u ≤ 1099511627776 → (Lib.decDigits u).length ≤ 13 := fun u hu => hd 12 u (by omega)
  unfold Lib.itoa
  split
  · rw [List.length_cons]
    have := h13 v.natAbs (by omega)
    omega
  · have := h13 v.toNat (by omega)
    omega
theorem wordN_itoa (v : Int) : wordN (Lib.itoa v) = v := by
  unfold wordN Lib.itoa
  by_cases h : v < 0
  · rw [if_pos h]
    rw [if_pos (show (45 :: Lib.decDigits v.natAbs).head? = some 45 from rfl), valF, if_pos rfl, valF_dec]
    omega
  · rw [if_neg h]
    obtain ⟨c, r, hc, h3, h4⟩ := dec_head v.toNat
    rw [if_neg (by rw [hc]; intro e; injection e with e; rw [e] at h3; exact absurd h3 (by decide)), valF_dec]
    omega
theorem wordR_eq (x : List UInt8) : wordR x = if (numF x).2 = true then some (numF x).1 else none := by
  by_cases h : (numF x).2 = true
  · obtain ⟨h1, h2⟩ := numF_true x h
    rw [if_pos h]
    have hw : wordN x = (numF x).1 := by rw [← h2, wordN_itoa, h2]
    unfold wordR
    rw [if_pos, hw]
    refine ⟨?_, ?_, by rw [hw]; exact h1, by rw [hw]; exact h2⟩
    · rw [← h2]; exact itoa_len14 _ h1
    · rw [← h2, List.all_eq_true]
      intro c hc
      unfold signByte
      rcases itoa_all _ c hc with e | e
      · rw [e]; rfl
      · rw [decide_eq_true e.1, decide_eq_true e.2]; simp
  · rw [if_neg h]
    unfold wordR
    rw [if_neg]
    rintro ⟨_, _, h3, h4⟩
    have := numF_itoa _ h3
    rw [h4] at this
    exact h (by rw [this])
theorem flatL_le' (c : UInt8) : ∀ l : List UInt8, (wordsL c l).length ≤ l.length + 1
  | [] => by simp [wordsL]
  | b :: l => by
    have h := flatL_le' c l
    rw [wordsL]
    split
    · rw [List.length_cons, List.length_cons]
      omega
    · obtain ⟨a, t, hx⟩ := words_ne c l
      rw [hx] at h ⊢
      rw [List.length_cons] at h ⊢
      rw [List.length_cons]
      omega
theorem rdB (ws : List (List UInt8)) (i : Nat) (h : i < ws.length) : rdOf ByteArray.empty (ws.map B) (i : Int) = B ws[i] := by
  unfold rdOf
  simp [h]
theorem pow14 (x : List UInt8) (p : Nat) (hp : p ≤ 14) (h : (x.take p).all signByte = true) : valF (x.take p) 0 < 100000000000000 := by
  have h1 := valF_lt (x.take p) 0 (fun c hc => List.all_eq_true.mp h c hc)
  have h2 : (x.take p).length ≤ 14 := by rw [List.length_take]; omega
  have h3 : 10 ^ (x.take p).length ≤ 10 ^ 14 := Nat.pow_le_pow_right (by omega) h2
  have h4 : (10 : Nat) ^ 14 = 100000000000000 := by decide
  omega
theorem word_j4 (ws : List (List UInt8)) (hws : ws.length ≤ 4398046511104) (out : List Int) (ho : out.length ≤ ws.length) (i : Nat) (hi : i < ws.length) (RES : List Int × Bool) (s : Bool) (v : Nat) (hv : v < 100000000000000) (hN : wordN ws[i] = if s = true then -(v : Int) else (v : Int))
    (hgood : numIn (wordN ws[i]) = true → Lib.itoa (wordN ws[i]) = ws[i] → Ev (fun k => aR_numbers.l0 k (ws.map B) (out ++ [wordN ws[i]]) ((i : Int) + 1)) RES)
    (hbad : ¬ (numIn (wordN ws[i]) = true ∧ Lib.itoa (wordN ws[i]) = ws[i]) → RES = ([], false)) :
    Ev (fun k => aR_numbers.j4 k (ws.map B) out (i : Int) (v : Int) s) RES := by
  have hio := numIn_iff (wordN ws[i])
  have hrest : -1099511627776 ≤ wordN ws[i] → wordN ws[i] ≤ 1099511627776 → Ev (fun k => (aR_decimal.f k (wordN ws[i])).bind fun t270 => (if 0 ≤ (i : Int) then (if (i : Int) < ((ws.map B).length : Int) then (if t270.toList = (rdOf ByteArray.empty (ws.map B) (i : Int)).toList then (if out.length < 17592186044416 then (aR_numbers.l0 k (ws.map B) (out ++ [wordN ws[i]]) (wrap64 ((i : Int) + 1))) else (none)) else (some (([] : List Int), false))) else (none)) else (none))) RES := by
    intro h1 h2
    refine Ev.bind (decimal_ev _ (by omega) (by omega)) (Ev.pos (by omega) (Ev.pos (by rw [List.length_map]; omega) ?_))
    rw [rdB ws i hi, B_list, B_list, w64 (n := (i : Int) + 1) (by omega) (by omega)]
    by_cases he : Lib.itoa (wordN ws[i]) = ws[i]
    · exact Ev.pos he (Ev.pos (by omega) (hgood (hio.mpr ⟨h1, h2⟩) he))
    · exact Ev.neg he (Ev.ret (hbad (fun h => he h.2)).symm)
  refine Ev.step (fun k => by rw [aR_numbers.j4]) ?_
  cases s with
  | true =>
    rw [if_pos rfl] at hN
    refine Ev.pos rfl ?_
    rw [w64 (n := -(v : Int)) (by omega) (by omega), ← hN]
    by_cases h1 : wordN ws[i] < -1099511627776
    · exact Ev.pos h1 (Ev.ret (hbad (fun h => by have := hio.mp h.1; omega)).symm)
    refine Ev.neg h1 ?_
    by_cases h2 : wordN ws[i] > 1099511627776
    · exact Ev.pos h2 (Ev.ret (hbad (fun h => by have := hio.mp h.1; omega)).symm)
    exact Ev.neg h2 (hrest (by omega) (by omega))
  | false =>
    rw [if_neg (by simp)] at hN
    refine Ev.neg (by simp) ?_
    rw [← hN]
    by_cases h1 : wordN ws[i] < -1099511627776
    · exact Ev.pos h1 (Ev.ret (hbad (fun h => by have := hio.mp h.1; omega)).symm)
    refine Ev.neg h1 ?_
    by_cases h2 : wordN ws[i] > 1099511627776
    · exact Ev.pos h2 (Ev.ret (hbad (fun h => by have := hio.mp h.1; omega)).symm)
    exact Ev.neg h2 (hrest (by omega) (by omega))
theorem word_l1 (ws : List (List UInt8)) (hws : ws.length ≤ 4398046511104) (out : List Int) (ho : out.length ≤ ws.length) (i : Nat) (hi : i < ws.length) (hx : ws[i].length ≤ 4398046511104) (RES : List Int × Bool)
    (hgood : ∀ v, wordR ws[i] = some v → Ev (fun k => aR_numbers.l0 k (ws.map B) (out ++ [v]) ((i : Int) + 1)) RES) (hbad : wordR ws[i] = none → RES = ([], false)) (d : Nat) :
    ∀ (p : Nat), p + d = ws[i].length → p ≤ 14 → (ws[i].take p).all signByte = true → Ev (fun k => aR_numbers.l1 k (ws.map B) out (i : Int) (valF (ws[i].take p) 0 : Int) (p : Int)) RES := by
  induction d with
  | zero =>
    intro p hp h14 hall
    have hv := pow14 ws[i] p h14 hall
    have hfull : ws[i].take p = ws[i] := List.take_of_length_le (by omega)
    rw [hfull] at hall hv ⊢
    refine Ev.step (fun k => by rw [aR_numbers.l1]) (Ev.pos (by omega) (Ev.pos (by rw [List.length_map]; omega) ?_))
    rw [rdB ws i hi]
    have hg : numIn (wordN ws[i]) = true → Lib.itoa (wordN ws[i]) = ws[i] → Ev (fun k => aR_numbers.l0 k (ws.map B) (out ++ [wordN ws[i]]) ((i : Int) + 1)) RES := fun h1 h2 => hgood _ (by unfold wordR; rw [if_pos ⟨by omega, hall, h1, h2⟩])
    have hb : ¬ (numIn (wordN ws[i]) = true ∧ Lib.itoa (wordN ws[i]) = ws[i]) → RES = ([], false) := fun h => hbad (by unfold wordR; rw [if_neg (fun hh => h ⟨hh.2.2.1, hh.2.2.2⟩)])
    refine Ev.neg (by rw [B_size]; omega) ?_
    by_cases h0 : ws[i].length = 0
    · have hnil : ws[i] = [] := List.eq_nil_of_length_eq_zero h0
      refine Ev.neg (by rw [B_size, h0]; omega) ?_
      exact word_j4 ws hws out ho i hi RES false _ hv (by rw [if_neg (by simp)]; unfold wordN; rw [if_neg (by rw [hnil]; simp)]) hg hb
    · refine Ev.pos (by rw [B_size]; omega) (Ev.pos (by rw [B_size]; omega) ?_)
      have h00 : bt (B ws[i]) 0 = (ws[i][0].toNat : Int) := B_bt ws[i] 0 (by omega)
      rw [h00]
      refine word_j4 ws hws out ho i hi RES _ _ hv ?_ hg hb
      unfold wordN
      have hh : ws[i].head? = some ws[i][0] := by rw [List.head?_eq_getElem?, List.getElem?_eq_getElem (by omega)]
      rw [hh]
      by_cases e : ws[i][0] = 45
      · rw [if_pos (by rw [e]), if_pos (by rw [e]; rfl)]
      · rw [if_neg (fun h => e (Option.some.inj h)), if_neg (by
          intro h
          rw [beq_iff_eq] at h
          exact e (UInt8.toNat_inj.1 (by show ws[i][0].toNat = 45; omega)))]
  | succ d ih =>
    intro p hp h14 hall
    have hv := pow14 ws[i] p h14 hall
    have hlt : p < ws[i].length := by omega
    have hfail : (p > 13 ∨ signByte ws[i][p] = false) → RES = ([], false) := fun h => hbad (by
      unfold wordR
      rw [if_neg]
      rintro ⟨h1, h2, _⟩
      rcases h with h | h
      · omega
      · have := List.all_eq_true.mp h2 _ (List.getElem_mem hlt)
        rw [h] at this
        cases this)
    have hstop : (p > 13 ∨ signByte ws[i][p] = false) → Ev (fun k => aR_numbers.j3 k (ws.map B) out (i : Int) (valF (ws[i].take p) 0 : Int) (p : Int) true) RES := fun h =>
      Ev.step (fun k => by rw [aR_numbers.j3]) (Ev.pos rfl (Ev.ret (hfail h).symm))
    have htake : ws[i].take (p + 1) = ws[i].take p ++ [ws[i][p]] := by rw [List.take_add_one, List.getElem?_eq_getElem hlt]; rfl
    have hgo : p ≤ 13 → signByte ws[i][p] = true → Ev (fun k => aR_numbers.j3 k (ws.map B) out (i : Int) (valF (ws[i].take p) 0 : Int) (p : Int) false) RES := fun h13 hs => by
      have hnext := ih (p + 1) (by omega) (by omega) (by rw [htake, List.all_append, hall]; simpa using hs)
      rw [htake, valF_append] at hnext
      refine Ev.step (fun k => by rw [aR_numbers.j3]) (Ev.neg (by simp) (Ev.pos (by omega) (Ev.pos (by rw [List.length_map]; omega) (Ev.pos (by omega) ?_))))
      rw [rdB ws i hi, B_bt ws[i] p hlt, w64 (n := (p : Int) + 1) (by omega) (by omega)]
      refine Ev.pos (by rw [B_size]; omega) ?_
      by_cases e : ws[i][p] = 45
      · refine Ev.pos (by rw [e]; rfl) ?_
        rw [valF, if_pos e, valF] at hnext
        exact hnext
      · refine Ev.neg (by intro h; exact e (UInt8.toNat_inj.1 (by show ws[i][p].toNat = 45; omega))) ?_
        rw [valF, if_neg e, valF] at hnext
        unfold signByte at hs
        rw [decide_eq_false e, Bool.false_or, Bool.and_eq_true, decide_eq_true_iff, decide_eq_true_iff] at hs
        rw [w64 (n := 10 * (valF (ws[i].take p) 0 : Int)) (by omega) (by omega), w64 (by omega) (by omega), show 10 * (valF (ws[i].take p) 0 : Int) + ((ws[i][p].toNat : Int) - 48) % 256 = ((10 * valF (ws[i].take p) 0 + (ws[i][p].toNat - 48) : Nat) : Int) by omega]
        exact hnext
    refine Ev.step (fun k => by rw [aR_numbers.l1]) (Ev.pos (by omega) (Ev.pos (by rw [List.length_map]; omega) ?_))
    rw [rdB ws i hi]
    refine Ev.pos (by rw [B_size]; omega) ?_
    rw [B_bt ws[i] p hlt]
    by_cases h13 : (p : Int) > 13
    · exact Ev.pos h13 (hstop (.inl (by omega)))
    refine Ev.neg h13 (Ev.pos (by omega) ?_)
    by_cases e : (ws[i][p].toNat : Int) = 45
    · exact Ev.pos e (hgo (by omega) (by unfold signByte; rw [show ws[i][p] = 45 from UInt8.toNat_inj.1 (by show ws[i][p].toNat = 45; omega)]; rfl))
    refine Ev.neg e ?_
    have hne : ws[i][p] ≠ 45 := fun h => e (by rw [h]; rfl)
    by_cases h48 : (ws[i][p].toNat : Int) < 48
    · exact Ev.pos h48 (hstop (.inr (by unfold signByte; rw [decide_eq_false hne, decide_eq_false (by omega)]; rfl)))
    refine Ev.neg h48 ?_
    by_cases h57 : (ws[i][p].toNat : Int) > 57
    · rw [decide_eq_true h57]
      exact hstop (.inr (by unfold signByte; rw [decide_eq_false hne, decide_eq_false (p := ws[i][p].toNat ≤ 57) (by omega)]; simp))
    · rw [decide_eq_false h57]
      exact hgo (by omega) (by unfold signByte; rw [decide_eq_true (p := 48 ≤ ws[i][p].toNat) (by omega), decide_eq_true (p := ws[i][p].toNat ≤ 57) (by omega)]; simp)
theorem numbers_l0 (ws : List (List UInt8)) (hws : ws.length ≤ 4398046511104) (hx : ∀ x ∈ ws, x.length ≤ 4398046511104) (d : Nat) : ∀ (i : Nat) (out : List Int), i + d = ws.length → out.length ≤ i →
    Ev (fun k => aR_numbers.l0 k (ws.map B) out (i : Int)) (match numsOf (ws.drop i) with | some ns => (out ++ ns, true) | none => ([], false)) := by
  induction d with
  | zero =>
    intro i out hi ho
    rw [List.drop_eq_nil_of_le (by omega)]
    exact Ev.step (fun k => by rw [aR_numbers.l0]) (Ev.neg (by rw [List.length_map]; omega) (Ev.ret (by simp [numsOf])))
  | succ d ih =>
    intro i out hi ho
    have hlt : i < ws.length := by omega
    refine Ev.step (fun k => by rw [aR_numbers.l0]) (Ev.pos (by rw [List.length_map]; omega) ?_)
    have hw := wordR_eq ws[i]
    have h := word_l1 ws hws out (by omega) i hlt (hx _ (List.getElem_mem hlt)) (match numsOf (ws.drop i) with | some ns => (out ++ ns, true) | none => ([], false)) ?_ ?_ ws[i].length 0 (by omega) (by omega) rfl
    · exact h
    · intro v hv
      have h2 := ih (i + 1) (out ++ [v]) (by omega) (by rw [List.length_append]; simp; omega)
      rw [hw] at hv
      by_cases hn : (numF ws[i]).2 = true
      · rw [if_pos hn] at hv
        refine Ev.eq h2 ?_
        rw [drop_get ws i hlt, numsOf, if_pos hn]
        cases numsOf (ws.drop (i + 1)) with
        | none => rfl
        | some ns =>
          rw [Option.some.inj hv]
          simp
      · rw [if_neg hn] at hv
        cases hv
    · intro hv
      rw [hw] at hv
      by_cases hn : (numF ws[i]).2 = true
      · rw [if_pos hn] at hv
        cases hv
      · rw [drop_get ws i hlt, numsOf, if_neg hn]
theorem numbers_ev (l word : List UInt8) (m : Nat) (hl : l.length ≤ 1048576) (hm : m ≤ 100) : Ev (fun k => aR_numbers.f k (B l) (B word) (m : Int)) (match scanF l word m with | some ns => (ns, true) | none => ([], false)) := by
  obtain ⟨w, ws, hw⟩ := words_ne 32 l
  have hlen : (w :: ws).length ≤ l.length + 1 := by
    have h1 := flatL_le' 32 l
    rw [hw] at h1
    exact h1
  unfold aR_numbers.f
  refine Ev.bind (pieces_ev l 32 (by omega)) ?_
  rw [hw]
  refine Ev.pos (by rw [List.length_map, List.length_cons]; omega) ?_
  have h0 : rdOf ByteArray.empty ((w :: ws).map B) 0 = B w := rdB (w :: ws) 0 (by simp)
  rw [h0, B_list, B_list]
  have hj : ∀ b : Bool, (b = true → scanF l word m = none) → (b = false → scanF l word m = numsOf ws) → Ev (fun k => aR_numbers.j0 k ((w :: ws).map B) b) (match scanF l word m with | some ns => (ns, true) | none => ([], false)) := by
    intro b h1 h2
    refine Ev.step (fun k => by rw [aR_numbers.j0]) ?_
    cases b with
    | true =>
      rw [h1 rfl]
      exact Ev.pos rfl (Ev.ret rfl)
    | false =>
      rw [h2 rfl]
      refine Ev.neg (by simp) ?_
      have h := numbers_l0 (w :: ws) (by omega) (fun x hx => by
        have := wordsL_len 32 l x (by rw [hw]; exact hx)
        omega) ws.length 1 [] (by rw [List.length_cons]; omega) (by simp)
      refine Ev.eq h ?_
      show (match numsOf ws with | some ns => ([] ++ ns, true) | none => ([], false)) = _
      cases numsOf ws <;> rfl
  have hsc : scanF l word m = if w = word ∧ ws.length = m then numsOf ws else none := by
    unfold scanF
    rw [hw]
  by_cases he : w = word
  · refine Ev.pos he ?_
    rw [List.length_map, List.length_cons, w64 (n := (m : Int) + 1) (by omega) (by omega)]
    refine hj _ (fun h => ?_) (fun h => ?_)
    · rw [hsc, if_neg]
      rintro ⟨_, h2⟩
      rw [h2] at h
      simp at h
    · rw [hsc, if_pos]
      refine ⟨he, ?_⟩
      have : ((ws.length + 1 : Nat) : Int) = (m : Int) + 1 := by simpa using h
      omega
  · refine Ev.neg he (hj true (fun _ => ?_) (fun h => by cases h))
    rw [hsc, if_neg (fun h => he h.1)]
end
end Go.Proofs.YtndojpcjhkncgaaGreatDoor.Q
end
section
namespace Go.Proofs.YtndojpcjhkncgaaGreatDoor.Q
open Go.RowKit Go.Proofs.YtndojpcjhkncgaaGreatDoorW.PrintWords Go.Proofs.YtndojpcjhkncgaaGreatDoorW.PrintLast Go.Proofs.YtndojpcjhkncgaaGreatDoorW.PrintMore
section
mutual
def aR_parse.j0 : Nat → ByteArray → ByteArray → Int → ByteArray → Int → Int → Bool → Option ((List (List Int)) × Int)
 | 0, _, _, _, _, _, _, _ => none
 | k + 1, x0, x1, x2, x3, x4, x12, x35 => if x35 = true then (some (([] : List (List Int)), 360)) else (if 0 ≤ x12 then (if x12 ≤ (x0.size : Int) then (if 0 ≤ 4 then (if 4 ≤ ((x0.extract (x12 : Int).toNat x0.size).size : Int) then (if ((x0.extract (x12 : Int).toNat x0.size).extract 0 4).toList = ([69, 78, 68, 32] : List UInt8) then (if 4 ≤ 12 then (if 12 ≤ ((x0.extract (x12 : Int).toNat x0.size).size : Int) then ((aR_digits.f k ((x0.extract (x12 : Int).toNat x0.size).extract 4 12)).bind fun t280 => (if t280 = true then (if 12 < ((x0.extract (x12 : Int).toNat x0.size).size : Int) then (if (bt (x0.extract (x12 : Int).toNat x0.size) 12) = 32 then (if 13 ≤ 21 then (if 21 ≤ ((x0.extract (x12 : Int).toNat x0.size).size : Int) then ((aR_digits.f k ((x0.extract (x12 : Int).toNat x0.size).extract 13 21)).bind fun t281 => (if t281 = true then (if 21 < ((x0.extract (x12 : Int).toNat x0.size).size : Int) then (aR_parse.j1 k x0 x1 x2 x3 x4 x12 (x0.extract (x12 : Int).toNat x0.size) ((bt (x0.extract (x12 : Int).toNat x0.size) 21) != 10)) else (none)) else (aR_parse.j1 k x0 x1 x2 x3 x4 x12 (x0.extract (x12 : Int).toNat x0.size) true))) else (none)) else (none)) else (aR_parse.j1 k x0 x1 x2 x3 x4 x12 (x0.extract (x12 : Int).toNat x0.size) true)) else (none)) else (aR_parse.j1 k x0 x1 x2 x3 x4 x12 (x0.extract (x12 : Int).toNat x0.size) true))) else (none)) else (none)) else (aR_parse.j1 k x0 x1 x2 x3 x4 x12 (x0.extract (x12 : Int).toNat x0.size) true)) else (none)) else (none)) else (none)) else (none))
def aR_parse.j1 : Nat → ByteArray → ByteArray → Int → ByteArray → Int → Int → ByteArray → Bool → Option ((List (List Int)) × Int)
 | 0, _, _, _, _, _, _, _, _ => none
 | k + 1, x0, x1, x2, x3, x4, x12, x13, x63 => if x63 = true then (some (([] : List (List Int)), 360)) else (if 0 ≤ (wrap64 (x12 - 1)) then (if (wrap64 (x12 - 1)) ≤ (x0.size : Int) then ((aR_pieces.f k (x0.extract 0 ((wrap64 (x12 - 1)) : Int).toNat) 10).bind fun t282 => (aR_parse.l0 k x0 x1 x2 x3 x4 x12 x13 t282 ([] : List (List Int)) 0)) else (none)) else (none))
def aR_parse.l0 : Nat → ByteArray → ByteArray → Int → ByteArray → Int → Int → ByteArray → List ByteArray → List (List Int) → Int → Option ((List (List Int)) × Int)
 | 0, _, _, _, _, _, _, _, _, _, _ => none
 | k + 1, x0, x1, x2, x3, x4, x12, x13, x14, x15, x16 => if x16 < (x14.length : Int) then (if x16 = 0 then (if 0 ≤ x16 then ((aR_numbers.f k (rdOf ByteArray.empty x14 x16) x1 x2).bind fun bt287 => (if bt287.2 = true then (if x15.length < 5864062014805 then (aR_parse.l0 k x0 x1 x2 x3 x4 x12 x13 x14 (x15 ++ [bt287.1]) (wrap64 (x16 + 1))) else (none)) else (some (([] : List (List Int)), 360)))) else (none)) else (if 0 ≤ x16 then ((aR_numbers.f k (rdOf ByteArray.empty x14 x16) x3 x4).bind fun bt295 => (if bt295.2 = true then (if x15.length < 5864062014805 then (aR_parse.l0 k x0 x1 x2 x3 x4 x12 x13 x14 (x15 ++ [bt295.1]) (wrap64 (x16 + 1))) else (none)) else (some (([] : List (List Int)), 360)))) else (none))) else (if 0 ≤ x12 then (if x12 ≤ (x0.size : Int) then ((aR_End.f k (x0.extract 0 (x12 : Int).toNat)).bind fun t285 => (if t285.toList = x13.toList then (some (x15, 0)) else (some (([] : List (List Int)), 361)))) else (none)) else (none))
end
def aR_parse.f (k : Nat) (a0 : ByteArray) (a1 : ByteArray) (a2 : Int) (a3 : ByteArray) (a4 : Int) : Option ((List (List Int)) × Int) := if (a0.size : Int) > 1048576 then (some (([] : List (List Int)), 3)) else (if (wrap64 ((a0.size : Int) - 22)) < 1 then (aR_parse.j0 k a0 a1 a2 a3 a4 (wrap64 ((a0.size : Int) - 22)) true) else (if 0 ≤ (wrap64 ((wrap64 ((a0.size : Int) - 22)) - 1)) then (if (wrap64 ((wrap64 ((a0.size : Int) - 22)) - 1)) < (a0.size : Int) then (aR_parse.j0 k a0 a1 a2 a3 a4 (wrap64 ((a0.size : Int) - 22)) ((bt a0 (wrap64 ((wrap64 ((a0.size : Int) - 22)) - 1))) != 10)) else (none)) else (none)))
set_option maxHeartbeats 8000000 in
set_option maxRecDepth 100000 in
theorem aR_parse.calls (k : Nat) (a0 : ByteArray) (a1 : ByteArray) (a2 : Int) (a3 : ByteArray) (a4 : Int) (r1 : List (List Int)) (r2 : Int) (w : World) (h : aR_parse.f k a0 a1 a2 a3 a4 = some (r1, r2)) :
  Calls Tryz.prog 57 #[.string a0, .string a1, .int .i64 a2, .string a3, .int .i64 a4] w fun e w' => ∃ v0_ : Value, e = .returned (.tuple #[v0_, .int .i64 r2]) ∧ Kd.S (Kd.slice 3 (Kd.int .i64)) 44 w' w.heap.size (fun _ => True) v0_ r1 ∧ Below w.heap.size w w' := by
 have HB := Zs.mk (Below.refl w.heap.size w); have H : (if (a0.size : Int) > 1048576 then (some (([] : List (List Int)), 3)) else (if (wrap64 ((a0.size : Int) - 22)) < 1 then (aR_parse.j0 k a0 a1 a2 a3 a4 (wrap64 ((a0.size : Int) - 22)) true) else (if 0 ≤ (wrap64 ((wrap64 ((a0.size : Int) - 22)) - 1)) then (if (wrap64 ((wrap64 ((a0.size : Int) - 22)) - 1)) < (a0.size : Int) then (aR_parse.j0 k a0 a1 a2 a3 a4 (wrap64 ((a0.size : Int) - 22)) ((bt a0 (wrap64 ((wrap64 ((a0.size : Int) - 22)) - 1))) != 10)) else (none)) else (none)))) = some (r1, r2) := h; clear h
 by_cases c6 : (a0.size : Int) > 1048576
 ·
  rw [if_pos c6] at H
  have c6b0 := decide_eq_true c6; have c6b1 : decide (1048576 < a0.size) = true := decide_eq_true (by omega); clear c6
  simp only [Option.some.injEq, Prod.mk.injEq] at H
  obtain ⟨rfl, rfl⟩ := H
  go_enter Tryz.func57, Tryz.ntmps57
  go_wp2
  go_ret2
  exact ⟨_, zE, by first | exact Kd.S_nil _ _ _ _ _ | exact Kd.N_nil _ _ _ _ _ | exact Kd.V_nil _ _ _ _ _ | exact Kd.Q_nil _ _ _ _ _ | exact Kd.R_nil _ _ _ _ _, zB⟩
 ·
  rw [if_neg c6] at H
  have c6b0 := decide_eq_false c6; have c6b1 : decide (1048576 < a0.size) = false := decide_eq_false (by omega); clear c6; have HC7 := Zs.mk H; clear H
  go_enter Tryz.func57, Tryz.ntmps57
  go_upto_region 4 with (fail)
  go_cut [35] (fun v35 wc => ∃ (kq : Nat) (x35_6 : Bool), v35 = .bool x35_6 ∧ Zs (aR_parse.j0 kq a0 a1 a2 a3 a4 (wrap64 ((a0.size : Int) - 22)) x35_6 = some (r1, r2)) ∧ Zs (kq ≤ k) ∧ Zs (Below w.heap.size w wc))
  case first =>
   have H := HC7.out; clear HC7
   by_cases c8 : (wrap64 ((a0.size : Int) - 22)) < 1
   ·
    rw [if_pos c8] at H
    have c8b0 := decide_eq_true c8; clear c8
    (first | rw [c8b0] | (simp only [i64_w, i32_w]; rw [c8b0]) | skip)
    have H' := Zs.mk H; clear H
    go_wp2
    go_meet
    case rel => exact ⟨_, (true), zs, H', ⟨by first | omega | exact Nat.le_refl _⟩, ⟨zB⟩⟩
   ·
    rw [if_neg c8] at H
    have c8b0 := decide_eq_false c8; clear c8
    (first | rw [c8b0] | (simp only [i64_w, i32_w]; rw [c8b0]) | skip)
    obtain ⟨ji9, hji9⟩ : ∃ j_ : Int, (wrap64 ((wrap64 ((a0.size : Int) - 22)) - 1)) = j_ := ⟨_, rfl⟩
    replace H : (if 0 ≤ (ji9) then (if (ji9) < (a0.size : Int) then (aR_parse.j0 k a0 a1 a2 a3 a4 (wrap64 ((a0.size : Int) - 22)) ((bt a0 (ji9)) != 10)) else (none)) else (none)) = some (r1, r2) := by first | (rw [hji9] at H; exact H) | (simp only [hji9] at H ⊢; exact H)
    have hji9w : (IntKind.i64.wrap ((wrap64 ((a0.size : Int) - 22)) - 1)) = ji9 := (i64_w _).trans hji9
    have c10 := zc H
    rw [if_pos c10] at H
    have c10b0 := decide_eq_true c10; clear c10
    have c11 := zc H
    rw [if_pos c11] at H
    have c11b0 := decide_eq_true c11; clear c11; have H' := Zs.mk H; clear H; have p12 : 0 ≤ ((ji9) : Int) := zD; have q12 : (ji9) < (a0.size : Int) := zD; have hx12 := bt_at a0 (ji9); replace p12 := eq_true p12; replace q12 := eq_true q12
    go_wp2
    go_meet
    case rel => exact ⟨_, (((bt a0 (ji9)) != 10)), (by first | rfl | (simp; done) | (simp only [← hji9] <;> (first | rfl | simp)) | (simp [*]; done)), H', ⟨by first | omega | exact Nat.le_refl _⟩, ⟨zB⟩⟩
  case rest =>
   clear HC7
   obtain ⟨kq, x35_6, rfl, HA, HJ6, HB⟩ := hcut
   cases kq with
   | zero => exact absurd HA.out (by simp [aR_parse.j0])
   | succ kj6 =>
    have H := HA.out; clear HA
    simp only [aR_parse.j0] at H
    by_cases c13 : x35_6 = true
    ·
     subst c13
     rw [if_pos rfl] at H
     simp only [Option.some.injEq, Prod.mk.injEq] at H
     obtain ⟨rfl, rfl⟩ := H
     go_wp2
     go_ret2
     exact ⟨_, zE, by first | exact Kd.S_nil _ _ _ _ _ | exact Kd.N_nil _ _ _ _ _ | exact Kd.V_nil _ _ _ _ _ | exact Kd.Q_nil _ _ _ _ _ | exact Kd.R_nil _ _ _ _ _, zB⟩
    ·
     replace c13 := Bool.eq_false_iff.mpr c13; subst c13
     rw [if_neg (show ¬ (false = true) by decide)] at H
     obtain ⟨ji14, hji14⟩ : ∃ j_ : Int, (wrap64 ((a0.size : Int) - 22)) = j_ := ⟨_, rfl⟩
     replace H : (if 0 ≤ (ji14) then (if (ji14) ≤ (a0.size : Int) then (if 0 ≤ 4 then (if 4 ≤ ((a0.extract ((ji14) : Int).toNat a0.size).size : Int) then (if ((a0.extract ((ji14) : Int).toNat a0.size).extract 0 4).toList = ([69, 78, 68, 32] : List UInt8) then (if 4 ≤ 12 then (if 12 ≤ ((a0.extract ((ji14) : Int).toNat a0.size).size : Int) then ((aR_digits.f kj6 ((a0.extract ((ji14) : Int).toNat a0.size).extract 4 12)).bind fun t280 => (if t280 = true then (if 12 < ((a0.extract ((ji14) : Int).toNat a0.size).size : Int) then (if (bt (a0.extract ((ji14) : Int).toNat a0.size) 12) = 32 then (if 13 ≤ 21 then (if 21 ≤ ((a0.extract ((ji14) : Int).toNat a0.size).size : Int) then ((aR_digits.f kj6 ((a0.extract ((ji14) : Int).toNat a0.size).extract 13 21)).bind fun t281 => (if t281 = true then (if 21 < ((a0.extract ((ji14) : Int).toNat a0.size).size : Int) then (aR_parse.j1 kj6 a0 a1 a2 a3 a4 (ji14) (a0.extract ((ji14) : Int).toNat a0.size) ((bt (a0.extract ((ji14) : Int).toNat a0.size) 21) != 10)) else (none)) else (aR_parse.j1 kj6 a0 a1 a2 a3 a4 (ji14) (a0.extract ((ji14) : Int).toNat a0.size) true))) else (none)) else (none)) else (aR_parse.j1 kj6 a0 a1 a2 a3 a4 (ji14) (a0.extract ((ji14) : Int).toNat a0.size) true)) else (none)) else (aR_parse.j1 kj6 a0 a1 a2 a3 a4 (ji14) (a0.extract ((ji14) : Int).toNat a0.size) true))) else (none)) else (none)) else (aR_parse.j1 kj6 a0 a1 a2 a3 a4 (ji14) (a0.extract ((ji14) : Int).toNat a0.size) true)) else (none)) else (none)) else (none)) else (none)) = some (r1, r2) := by first | (rw [hji14] at H; exact H) | (simp only [hji14] at H ⊢; exact H)
     have hji14w : (IntKind.i64.wrap ((a0.size : Int) - 22)) = ji14 := (i64_w _).trans hji14
     have c15 := zc H
     rw [if_pos c15] at H
     have c15b0 := eq_true c15; have c15b1 := decide_eq_true c15; clear c15
     have c16 := zc H
     rw [if_pos c16] at H
     have c16b0 := eq_true c16; have c16b1 := decide_eq_true c16; clear c16; have HC17 := Zs.mk H; clear H
     go_upto_region 7 with (fail)
     go_cut [63] (fun v63 wc => ∃ (kq : Nat) (x63_16 : Bool), v63 = .bool x63_16 ∧ Zs (aR_parse.j1 kq a0 a1 a2 a3 a4 (ji14) (a0.extract ((ji14) : Int).toNat a0.size) x63_16 = some (r1, r2)) ∧ Zs (kq ≤ kj6) ∧ Zs (Below w.heap.size w wc))
     case first =>
      have H := HC17.out; clear HC17
      have c18 := zc H
      rw [if_pos c18] at H
      have c18b0 := eq_true c18; have c18b1 := decide_eq_true c18; clear c18
      have c19 := zc H
      rw [if_pos c19] at H
      have c19b0 := eq_true c19; have c19b1 := decide_eq_true c19
      have c19b6 : 4 ≤ a0.size - ji14.toNat := by have e_ : (a0.extract ((ji14) : Int).toNat a0.size).size = a0.size - ji14.toNat := (by rw [ByteArray.size_extract]; omega); omega
      have c19b7 : decide (4 ≤ a0.size - ji14.toNat) = true := decide_eq_true c19b6
      have c19b8 : (4 : Int) ≤ ((a0.size - ji14.toNat : Nat) : Int) := by omega
      clear c19
      by_cases c20 : ((a0.extract ((ji14) : Int).toNat a0.size).extract 0 4).toList = ([69, 78, 68, 32] : List UInt8)
      ·
       rw [if_pos c20] at H
       obtain ⟨c20b0, c20b1⟩ := zeq c20; clear c20
       (first | rw [c20b0] | (simp only [i64_w, i32_w]; rw [c20b0]) | skip)
       have c21 := zc H
       rw [if_pos c21] at H
       have c21b0 := eq_true c21; have c21b1 := decide_eq_true c21; clear c21
       have c22 := zc H
       rw [if_pos c22] at H
       have c22b0 := eq_true c22; have c22b1 := decide_eq_true c22
       have c22b6 : 12 ≤ a0.size - ji14.toNat := by have e_ : (a0.extract ((ji14) : Int).toNat a0.size).size = a0.size - ji14.toNat := (by rw [ByteArray.size_extract]; omega); omega
       have c22b7 : decide (12 ≤ a0.size - ji14.toNat) = true := decide_eq_true c22b6
       have c22b8 : (12 : Int) ≤ ((a0.size - ji14.toNat : Nat) : Int) := by omega
       clear c22; obtain ⟨t280, A23, H⟩ := zb H; (try dsimp only [-Int.reduceToNat] at H)
       by_cases c24 : t280 = true
       ·
        subst c24
        rw [if_pos rfl] at H
        have c25 := zc H
        rw [if_pos c25] at H
        have c25b0 := decide_eq_true c25
        have c25b6 : 12 < a0.size - ji14.toNat := by have e_ : (a0.extract ((ji14) : Int).toNat a0.size).size = a0.size - ji14.toNat := (by rw [ByteArray.size_extract]; omega); omega
        have c25b7 : decide (12 < a0.size - ji14.toNat) = true := decide_eq_true c25b6
        have c25b8 : (12 : Int) < ((a0.size - ji14.toNat : Nat) : Int) := by omega
        have c25b1 : decide (12 < (a0.extract ((ji14) : Int).toNat a0.size).size) = true := decide_eq_true (by omega); clear c25
        by_cases c27 : (bt (a0.extract ((ji14) : Int).toNat a0.size) 12) = 32
        ·
         rw [if_pos c27] at H
         obtain ⟨c27b0, c27b1⟩ := zeq c27; clear c27
         have c28 := zc H
         rw [if_pos c28] at H
         have c28b0 := eq_true c28; have c28b1 := decide_eq_true c28; clear c28
         have c29 := zc H
         rw [if_pos c29] at H
         have c29b0 := eq_true c29; have c29b1 := decide_eq_true c29
         have c29b6 : 21 ≤ a0.size - ji14.toNat := by have e_ : (a0.extract ((ji14) : Int).toNat a0.size).size = a0.size - ji14.toNat := (by rw [ByteArray.size_extract]; omega); omega
         have c29b7 : decide (21 ≤ a0.size - ji14.toNat) = true := decide_eq_true c29b6
         have c29b8 : (21 : Int) ≤ ((a0.size - ji14.toNat : Nat) : Int) := by omega
         clear c29; obtain ⟨t281, A30, H⟩ := zb H; (try dsimp only [-Int.reduceToNat] at H)
         by_cases c31 : t281 = true
         ·
          subst c31
          rw [if_pos rfl] at H
          have c32 := zc H
          rw [if_pos c32] at H
          have c32b0 := decide_eq_true c32
          have c32b6 : 21 < a0.size - ji14.toNat := by have e_ : (a0.extract ((ji14) : Int).toNat a0.size).size = a0.size - ji14.toNat := (by rw [ByteArray.size_extract]; omega); omega
          have c32b7 : decide (21 < a0.size - ji14.toNat) = true := decide_eq_true c32b6
          have c32b8 : (21 : Int) < ((a0.size - ji14.toNat : Nat) : Int) := by omega
          have c32b1 : decide (21 < (a0.extract ((ji14) : Int).toNat a0.size).size) = true := decide_eq_true (by omega); clear c32; have H' := Zs.mk H; clear H
          go_wp2_with (first | (go_at_call 69; (with_reducible refine (aR_digits.calls kj6 ((a0.extract ((ji14) : Int).toNat a0.size).extract 4 12) true _ A23.out).mono ?_); rintro e w' ⟨rfl, ⟨nd, rfl⟩⟩; have p26 : 0 ≤ (12 : Int) := (by omega); have q26 : 12 < (a0.extract ((ji14) : Int).toNat a0.size).size := (by have : (12 : Int) < ((a0.extract ((ji14) : Int).toNat a0.size).size : Int) := zD; omega); have hx26 : ∀ h : 12 < (a0.extract ((ji14) : Int).toNat a0.size).size, (((a0.extract ((ji14) : Int).toNat a0.size)[12]'h).toNat : Int) = bt (a0.extract ((ji14) : Int).toNat a0.size) 12 := bt_at (a0.extract ((ji14) : Int).toNat a0.size) 12; clear p26; have qi26 : (12 < ((a0.extract ((ji14) : Int).toNat a0.size).size : Int)) = True := eq_true (zD); replace q26 := eq_true q26) | (go_at_call 69; (with_reducible refine (aR_digits.calls kj6 ((a0.extract ((ji14) : Int).toNat a0.size).extract 13 21) true _ A30.out).mono ?_); rintro e w' ⟨rfl, ⟨nd, rfl⟩⟩; have p33 : 0 ≤ (21 : Int) := (by omega); have q33 : 21 < (a0.extract ((ji14) : Int).toNat a0.size).size := (by have : (21 : Int) < ((a0.extract ((ji14) : Int).toNat a0.size).size : Int) := zD; omega); have hx33 : ∀ h : 21 < (a0.extract ((ji14) : Int).toNat a0.size).size, (((a0.extract ((ji14) : Int).toNat a0.size)[21]'h).toNat : Int) = bt (a0.extract ((ji14) : Int).toNat a0.size) 21 := bt_at (a0.extract ((ji14) : Int).toNat a0.size) 21; clear p33; have qi33 : (21 < ((a0.extract ((ji14) : Int).toNat a0.size).size : Int)) = True := eq_true (zD); replace q33 := eq_true q33))
          subst hji14
          go_meet
          case rel => exact ⟨_, (((bt (a0.extract (wrap64 ((a0.size : Int) - 22)).toNat a0.size) 21) != 10)), (by first | rfl | (simp; done) | (simp only [← hji14] <;> (first | rfl | simp)) | (simp [*]; done)), H', ⟨by have := HJ6.out; first | omega | exact Nat.le_refl _⟩, ⟨zB⟩⟩
         ·
          replace c31 := Bool.eq_false_iff.mpr c31; subst c31
          rw [if_neg (show ¬ (false = true) by decide)] at H
          have H' := Zs.mk H; clear H
          go_wp2_with (first | (go_at_call 69; (with_reducible refine (aR_digits.calls kj6 ((a0.extract ((ji14) : Int).toNat a0.size).extract 4 12) true _ A23.out).mono ?_); rintro e w' ⟨rfl, ⟨nd, rfl⟩⟩; have p26 : 0 ≤ (12 : Int) := (by omega); have q26 : 12 < (a0.extract ((ji14) : Int).toNat a0.size).size := (by have : (12 : Int) < ((a0.extract ((ji14) : Int).toNat a0.size).size : Int) := zD; omega); have hx26 : ∀ h : 12 < (a0.extract ((ji14) : Int).toNat a0.size).size, (((a0.extract ((ji14) : Int).toNat a0.size)[12]'h).toNat : Int) = bt (a0.extract ((ji14) : Int).toNat a0.size) 12 := bt_at (a0.extract ((ji14) : Int).toNat a0.size) 12; clear p26; have qi26 : (12 < ((a0.extract ((ji14) : Int).toNat a0.size).size : Int)) = True := eq_true (zD); replace q26 := eq_true q26) | (go_at_call 69; (with_reducible refine (aR_digits.calls kj6 ((a0.extract ((ji14) : Int).toNat a0.size).extract 13 21) false _ A30.out).mono ?_); rintro e w' ⟨rfl, ⟨nd, rfl⟩⟩))
          subst hji14
          go_meet
          case rel => exact ⟨_, (true), zs, H', ⟨by have := HJ6.out; first | omega | exact Nat.le_refl _⟩, ⟨zB⟩⟩
        ·
         rw [if_neg c27] at H
         obtain ⟨c27b0, c27b1⟩ := zne c27; have H' := Zs.mk H; clear H
         go_wp2_with (first | (go_at_call 69; (with_reducible refine (aR_digits.calls kj6 ((a0.extract ((ji14) : Int).toNat a0.size).extract 4 12) true _ A23.out).mono ?_); rintro e w' ⟨rfl, ⟨nd, rfl⟩⟩; have p26 : 0 ≤ (12 : Int) := (by omega); have q26 : 12 < (a0.extract ((ji14) : Int).toNat a0.size).size := (by have : (12 : Int) < ((a0.extract ((ji14) : Int).toNat a0.size).size : Int) := zD; omega); have hx26 : ∀ h : 12 < (a0.extract ((ji14) : Int).toNat a0.size).size, (((a0.extract ((ji14) : Int).toNat a0.size)[12]'h).toNat : Int) = bt (a0.extract ((ji14) : Int).toNat a0.size) 12 := bt_at (a0.extract ((ji14) : Int).toNat a0.size) 12; clear p26; have qi26 : (12 < ((a0.extract ((ji14) : Int).toNat a0.size).size : Int)) = True := eq_true (zD); replace q26 := eq_true q26))
         subst hji14
         go_meet
         case rel => exact ⟨_, (true), zs, H', ⟨by have := HJ6.out; first | omega | exact Nat.le_refl _⟩, ⟨zB⟩⟩
       ·
        replace c24 := Bool.eq_false_iff.mpr c24; subst c24
        rw [if_neg (show ¬ (false = true) by decide)] at H
        have H' := Zs.mk H; clear H
        go_wp2_with (first | (go_at_call 69; (with_reducible refine (aR_digits.calls kj6 ((a0.extract ((ji14) : Int).toNat a0.size).extract 4 12) false _ A23.out).mono ?_); rintro e w' ⟨rfl, ⟨nd, rfl⟩⟩))
        subst hji14
        go_meet
        case rel => exact ⟨_, (true), zs, H', ⟨by have := HJ6.out; first | omega | exact Nat.le_refl _⟩, ⟨zB⟩⟩
      ·
       rw [if_neg c20] at H
       obtain ⟨c20b0, c20b1⟩ := zne c20
       (first | rw [c20b0] | (simp only [i64_w, i32_w]; rw [c20b0]) | skip)
       have H' := Zs.mk H; clear H
       go_wp2
       go_meet
       case rel => exact ⟨_, (true), zs, H', ⟨by have := HJ6.out; first | omega | exact Nat.le_refl _⟩, ⟨zB⟩⟩
     case rest =>
      clear HC17
      obtain ⟨kq, x63_16, rfl, HA, HJ16, HB⟩ := hcut
      cases kq with
      | zero => exact absurd HA.out (by simp [aR_parse.j1])
      | succ kj16 =>
       have H := HA.out; clear HA
       simp only [aR_parse.j1] at H
       by_cases c34 : x63_16 = true
       ·
        subst c34
        rw [if_pos rfl] at H
        simp only [Option.some.injEq, Prod.mk.injEq] at H
        obtain ⟨rfl, rfl⟩ := H
        go_wp2
        go_ret2
        exact ⟨_, by first | rfl | (simp [errW_none, errW_some] <;> rfl) | (simp only [← hji14]; first | rfl | (simp [errW_none, errW_some] <;> rfl)) | (simp [*, errW_none, errW_some] <;> rfl), by first | exact Kd.S_nil _ _ _ _ _ | exact Kd.N_nil _ _ _ _ _ | exact Kd.V_nil _ _ _ _ _ | exact Kd.Q_nil _ _ _ _ _ | exact Kd.R_nil _ _ _ _ _, zB⟩
       ·
        replace c34 := Bool.eq_false_iff.mpr c34; subst c34
        rw [if_neg (show ¬ (false = true) by decide)] at H
        obtain ⟨ji35, hji35⟩ : ∃ j_ : Int, (wrap64 ((ji14) - 1)) = j_ := ⟨_, rfl⟩
        replace H : (if 0 ≤ (ji35) then (if (ji35) ≤ (a0.size : Int) then ((aR_pieces.f kj16 (a0.extract 0 ((ji35) : Int).toNat) 10).bind fun t282 => (aR_parse.l0 kj16 a0 a1 a2 a3 a4 (ji14) (a0.extract ((ji14) : Int).toNat a0.size) t282 ([] : List (List Int)) 0)) else (none)) else (none)) = some (r1, r2) := by first | (rw [hji35] at H; exact H) | (simp only [hji35] at H ⊢; exact H)
        have hji35w : (IntKind.i64.wrap ((ji14) - 1)) = ji35 := (i64_w _).trans hji35
        have c36 := zc H
        rw [if_pos c36] at H
        have c36b0 := eq_true c36; have c36b1 := decide_eq_true c36; clear c36
        have c37 := zc H
        rw [if_pos c37] at H
        have c37b0 := eq_true c37; have c37b1 := decide_eq_true c37; clear c37; obtain ⟨t282, A38, H⟩ := zb H; (try dsimp only [-Int.reduceToNat] at H); have H' := Zs.mk H; clear H
        go_wp2_with (first | ((with_reducible refine gkc (f := 70) rfl ?_); refine goesL_ (some 68) rfl rfl Tryz.func70 (by kernel_rfl) rfl #[.string (a0.extract 0 ((ji35) : Int).toNat), .int .u8 10] rfl (by (try simp only [List.map_toArray, List.map_cons, List.map_nil]); first | done | (simp only [hji35]; rfl) | rfl | (simp only [List.length_drop, List.length_take]; rfl)) ?_; (with_reducible refine (aR_pieces.calls kj16 (a0.extract 0 ((ji35) : Int).toNat) 10 t282 _ A38.out).mono ?_); rintro e w39 ⟨v283, rfl, ho0, hb⟩; refine ⟨_, rfl, ?_⟩; have HO284 := Zs.mk (Kd.R_lower ho0 (bsz zB)); replace HB := zBs hb))
        go_loopg [15, 16] kj16 (fun kq v15 v16 w' => ∃ (x15_3 : List (List Int)) (x16_3 : Int), v16 = .int .i64 x16_3 ∧ Zs (aR_parse.l0 kq a0 a1 a2 a3 a4 (ji14) (a0.extract ((ji14) : Int).toNat a0.size) t282 x15_3 x16_3 = some (r1, r2)) ∧ Zs (kq ≤ kj16) ∧ Zs (Kd.R Kd.string 9 w' w.heap.size (fun _ => True) v283 t282) ∧ Zs (Kd.S (Kd.slice 3 (Kd.int .i64)) 44 w' w.heap.size (fun _ => True) v15 x15_3) ∧ Zs (Below w.heap.size w w'))
        case atStart => exact ⟨(([] : List (List Int))), (0), zs, H', ⟨Nat.le_refl _⟩, ⟨zR HO284⟩, ⟨by first | exact Kd.S_nil _ _ _ _ _ | exact Kd.N_nil _ _ _ _ _ | exact Kd.V_nil _ _ _ _ _ | exact Kd.Q_nil _ _ _ _ _ | exact Kd.R_nil _ _ _ _ _⟩, ⟨zB⟩⟩
        case round =>
         clear H'
         obtain ⟨x15_3, x16_3, rfl, HA, HK3, HO_14, HO_15, HB⟩ := hrel
         cases gk with
         | zero => exact absurd HA.out (by simp [aR_parse.l0])
         | succ k3 =>
          have H := HA.out; clear HA
          simp only [aR_parse.l0] at H
          by_cases c40 : x16_3 < (t282.length : Int)
          ·
           rw [if_pos c40] at H
           have c40b0 := decide_eq_true c40; clear c40
           by_cases c41 : x16_3 = 0
           ·
            rw [if_pos c41] at H
            obtain ⟨c41b0, c41b1⟩ := zeq c41; clear c41
            have c42 := zc H
            rw [if_pos c42] at H
            have c42b0 := decide_eq_true c42; clear c42; obtain ⟨⟨t287, t288⟩, A43, H⟩ := zb H; (try dsimp only [-Int.reduceToNat] at H)
            by_cases c44 : t288 = true
            ·
             subst c44
             rw [if_pos rfl] at H
             have c45 := zc H
             rw [if_pos c45] at H
             have LMc45 := Zs.mk c45; clear c45
             obtain ⟨y291, hy291⟩ : ∃ y_ : List (List Int), y_ = (x15_3 ++ [t287]) := ⟨_, rfl⟩
             replace H : (aR_parse.l0 k3 a0 a1 a2 a3 a4 (ji14) (a0.extract ((ji14) : Int).toNat a0.size) t282 y291 (wrap64 (x16_3 + 1))) = some (r1, r2) := by first | (rw [hy291]; with_reducible exact H) | (have H2_ := (Option.bind_some _ _).symm.trans H; rw [hy291]; with_reducible exact H2_) | (have H2_ := (Option.bind_some _ _).symm.trans H; with_reducible exact H2_) | with_reducible exact H | (rw [hy291]; exact H) | exact H
             have Ny291 := Zs.mk hy291; clear hy291; have H' := Zs.mk H; clear H; obtain ⟨Ao46, co46, eo46⟩ := Kd.R_slice HO_14.out; subst eo46; have p286 : 0 ≤ (x16_3 : Int) := zD; have q286 : x16_3 < (t282.length : Int) := zD; obtain ⟨ad286, e286, hx286_0⟩ := Kd.at_string (Kd.R_reads' HO_14.out).2.2 x16_3 p286 q286
             cases e286
             replace p286 := eq_true p286; replace q286 := eq_true q286
             go_wp2_with (first | ((with_reducible refine gkc (f := 71) rfl ?_); refine zgo (some 88) Tryz.func71 #[.string (rdOf ByteArray.empty t282 x16_3), .string a1, .int .i64 a2] ?_; (with_reducible refine (aR_numbers.calls k3 (rdOf ByteArray.empty t282 x16_3) a1 a2 t287 true _ A43.out).mono ?_); rintro e w47 ⟨v289, rfl, ho0, hb⟩; refine ⟨_, rfl, ?_⟩; replace HO_14 := zRb HO_14 hb; replace HO_15 := Zs.mk (Kd.S_elder' (zS HO_15) (Kd.R_base ho0) hb); have HO290 := Zs.mk (Kd.R_lower ho0 (bsz zB)); replace HB := zBs hb; obtain ⟨Ao49, co49, eo49⟩ := Kd.R_slice HO290.out; subst eo49) | ((with_reducible refine gate_builtin (b := .append) (xs := #[.tmp 93, .tmp 95]) rfl ?_); at_builtin; refine Kd.S_append (Kd.slice 3 (Kd.int .i64)) (w0 := w) w.heap.size rfl (.tmp 93) (.tmp 95) 95 44 (.slice none 0 0) 24 rfl Tryz.underlying95 info44 rfl (by decide) (by omega) u15 x15_3 t287 [.slice Ao49 t287.length co49] (fun _ => True) (fun k_ => some k_ = (.slice Ao49 t287.length co49 : Value).ownBlock) rfl rfl ?aP (fun k_ hk_ => ((Kd.R_mono (ok' := fun k_ => ((fun _ => True)) k_ ∧ some k_ ≠ (u15 : Value).ownBlock) (Kd.R_apart' (HO290.out) (Kd.S_typed HO_15.out) (by decide)) (fun k_ hk => ⟨trivial, hk.2⟩))).1 k_ hk_.symm) ?aF ?aO ?aB ?aS ?aL ?_; (case aP => exact Kd.M_row (Kd.R_mono (Kd.R_tight rfl (Kd.R_mono (ok' := fun k_ => ((fun _ => True)) k_ ∧ some k_ ≠ (u15 : Value).ownBlock) (Kd.R_apart' (HO290.out) (Kd.S_typed HO_15.out) (by decide)) (fun k_ hk => ⟨trivial, hk.2⟩))) (fun _ h_ => h_))); (case aB => exact zB); (case aF => exact (fun _ _ => trivial)); (case aO => exact (by (with_reducible repeat (first | apply Kd.S_alloc | apply Kd.S_drewN | apply Kd.S_drew)); exact Kd.S_mono HO_15.out (fun k_ hk => ⟨trivial, fun e_ => hk.2 e_⟩))); (case aS => exact (bsz zB)); (case aL => have := LMc45.out; omega); intro v292 w48 ho hb hg hat; rw [← Ny291.out] at ho; replace HO_14 := Zs.mk (Kd.R_over' (zR HO_14) (Kd.S_typed (zS HO_15)) (by decide) hg); replace HB := Zs.mk (hb); have HO293 := Zs.mk (ho); clear HO_15 HO290; clear ho hb hg hat))
             go_roundg k3
             case measure => have := HJ6.out; have := HJ16.out; have := HK3.out; omega
             case rel => exact ⟨(y291), (wrap64 (x16_3 + 1)), zs, H', ⟨by have := HJ6.out; have := HJ16.out; have := HK3.out; omega⟩, ⟨zR HO_14⟩, ⟨zS HO293⟩, ⟨zB⟩⟩
            ·
             replace c44 := Bool.eq_false_iff.mpr c44; subst c44
             rw [if_neg (show ¬ (false = true) by decide)] at H
             simp only [Option.some.injEq, Prod.mk.injEq] at H
             obtain ⟨rfl, rfl⟩ := H; obtain ⟨Ao50, co50, eo50⟩ := Kd.R_slice HO_14.out; subst eo50; have p286 : 0 ≤ (x16_3 : Int) := zD; have q286 : x16_3 < (t282.length : Int) := zD; obtain ⟨ad286, e286, hx286_0⟩ := Kd.at_string (Kd.R_reads' HO_14.out).2.2 x16_3 p286 q286
             cases e286
             replace p286 := eq_true p286; replace q286 := eq_true q286
             go_wp2_with (first | ((with_reducible refine gkc (f := 71) rfl ?_); refine zgo (some 88) Tryz.func71 #[.string (rdOf ByteArray.empty t282 x16_3), .string a1, .int .i64 a2] ?_; (with_reducible refine (aR_numbers.calls k3 (rdOf ByteArray.empty t282 x16_3) a1 a2 t287 false _ A43.out).mono ?_); rintro e w51 ⟨v289, rfl, ho0, hb⟩; refine ⟨_, rfl, ?_⟩; replace HO_14 := zRb HO_14 hb; replace HO_15 := Zs.mk (Kd.S_elder' (zS HO_15) (Kd.R_base ho0) hb); have HO290 := Zs.mk (Kd.R_lower ho0 (bsz zB)); replace HB := zBs hb))
             go_ret2
             exact ⟨_, by first | rfl | (simp [errW_none, errW_some] <;> rfl) | (simp only [← hji14, ← hji35]; first | rfl | (simp [errW_none, errW_some] <;> rfl)) | (simp [*, errW_none, errW_some] <;> rfl), by first | exact Kd.S_nil _ _ _ _ _ | exact Kd.N_nil _ _ _ _ _ | exact Kd.V_nil _ _ _ _ _ | exact Kd.Q_nil _ _ _ _ _ | exact Kd.R_nil _ _ _ _ _, zB⟩
           ·
            rw [if_neg c41] at H
            obtain ⟨c41b0, c41b1⟩ := zne c41
            have c52 := zc H
            rw [if_pos c52] at H
            have c52b0 := decide_eq_true c52; clear c52; obtain ⟨⟨t295, t296⟩, A53, H⟩ := zb H; (try dsimp only [-Int.reduceToNat] at H)
            by_cases c54 : t296 = true
            ·
             subst c54
             rw [if_pos rfl] at H
             have c55 := zc H
             rw [if_pos c55] at H
             have LMc55 := Zs.mk c55; clear c55
             obtain ⟨y299, hy299⟩ : ∃ y_ : List (List Int), y_ = (x15_3 ++ [t295]) := ⟨_, rfl⟩
             replace H : (aR_parse.l0 k3 a0 a1 a2 a3 a4 (ji14) (a0.extract ((ji14) : Int).toNat a0.size) t282 y299 (wrap64 (x16_3 + 1))) = some (r1, r2) := by first | (rw [hy299]; with_reducible exact H) | (have H2_ := (Option.bind_some _ _).symm.trans H; rw [hy299]; with_reducible exact H2_) | (have H2_ := (Option.bind_some _ _).symm.trans H; with_reducible exact H2_) | with_reducible exact H | (rw [hy299]; exact H) | exact H
             have Ny299 := Zs.mk hy299; clear hy299; have H' := Zs.mk H; clear H; obtain ⟨Ao56, co56, eo56⟩ := Kd.R_slice HO_14.out; subst eo56; have p294 : 0 ≤ (x16_3 : Int) := zD; have q294 : x16_3 < (t282.length : Int) := zD; obtain ⟨ad294, e294, hx294_0⟩ := Kd.at_string (Kd.R_reads' HO_14.out).2.2 x16_3 p294 q294
             cases e294
             replace p294 := eq_true p294; replace q294 := eq_true q294
             go_wp2_with (first | ((with_reducible refine gkc (f := 71) rfl ?_); refine zgo (some 88) Tryz.func71 #[.string (rdOf ByteArray.empty t282 x16_3), .string a3, .int .i64 a4] ?_; (with_reducible refine (aR_numbers.calls k3 (rdOf ByteArray.empty t282 x16_3) a3 a4 t295 true _ A53.out).mono ?_); rintro e w57 ⟨v297, rfl, ho0, hb⟩; refine ⟨_, rfl, ?_⟩; replace HO_14 := zRb HO_14 hb; replace HO_15 := Zs.mk (Kd.S_elder' (zS HO_15) (Kd.R_base ho0) hb); have HO298 := Zs.mk (Kd.R_lower ho0 (bsz zB)); replace HB := zBs hb; obtain ⟨Ao59, co59, eo59⟩ := Kd.R_slice HO298.out; subst eo59) | ((with_reducible refine gate_builtin (b := .append) (xs := #[.tmp 93, .tmp 95]) rfl ?_); at_builtin; refine Kd.S_append (Kd.slice 3 (Kd.int .i64)) (w0 := w) w.heap.size rfl (.tmp 93) (.tmp 95) 95 44 (.slice none 0 0) 24 rfl Tryz.underlying95 info44 rfl (by decide) (by omega) u15 x15_3 t295 [.slice Ao59 t295.length co59] (fun _ => True) (fun k_ => some k_ = (.slice Ao59 t295.length co59 : Value).ownBlock) rfl rfl ?aP (fun k_ hk_ => ((Kd.R_mono (ok' := fun k_ => ((fun _ => True)) k_ ∧ some k_ ≠ (u15 : Value).ownBlock) (Kd.R_apart' (HO298.out) (Kd.S_typed HO_15.out) (by decide)) (fun k_ hk => ⟨trivial, hk.2⟩))).1 k_ hk_.symm) ?aF ?aO ?aB ?aS ?aL ?_; (case aP => exact Kd.M_row (Kd.R_mono (Kd.R_tight rfl (Kd.R_mono (ok' := fun k_ => ((fun _ => True)) k_ ∧ some k_ ≠ (u15 : Value).ownBlock) (Kd.R_apart' (HO298.out) (Kd.S_typed HO_15.out) (by decide)) (fun k_ hk => ⟨trivial, hk.2⟩))) (fun _ h_ => h_))); (case aB => exact zB); (case aF => exact (fun _ _ => trivial)); (case aO => exact (by (with_reducible repeat (first | apply Kd.S_alloc | apply Kd.S_drewN | apply Kd.S_drew)); exact Kd.S_mono HO_15.out (fun k_ hk => ⟨trivial, fun e_ => hk.2 e_⟩))); (case aS => exact (bsz zB)); (case aL => have := LMc55.out; omega); intro v300 w58 ho hb hg hat; rw [← Ny299.out] at ho; replace HO_14 := Zs.mk (Kd.R_over' (zR HO_14) (Kd.S_typed (zS HO_15)) (by decide) hg); replace HB := Zs.mk (hb); have HO301 := Zs.mk (ho); clear HO_15 HO298; clear ho hb hg hat))
             go_roundg k3
             case measure => have := HJ6.out; have := HJ16.out; have := HK3.out; omega
             case rel => exact ⟨(y299), (wrap64 (x16_3 + 1)), zs, H', ⟨by have := HJ6.out; have := HJ16.out; have := HK3.out; omega⟩, ⟨zR HO_14⟩, ⟨zS HO301⟩, ⟨zB⟩⟩
            ·
             replace c54 := Bool.eq_false_iff.mpr c54; subst c54
             rw [if_neg (show ¬ (false = true) by decide)] at H
             simp only [Option.some.injEq, Prod.mk.injEq] at H
             obtain ⟨rfl, rfl⟩ := H; obtain ⟨Ao60, co60, eo60⟩ := Kd.R_slice HO_14.out; subst eo60; have p294 : 0 ≤ (x16_3 : Int) := zD; have q294 : x16_3 < (t282.length : Int) := zD; obtain ⟨ad294, e294, hx294_0⟩ := Kd.at_string (Kd.R_reads' HO_14.out).2.2 x16_3 p294 q294
             cases e294
             replace p294 := eq_true p294; replace q294 := eq_true q294
             go_wp2_with (first | ((with_reducible refine gkc (f := 71) rfl ?_); refine zgo (some 88) Tryz.func71 #[.string (rdOf ByteArray.empty t282 x16_3), .string a3, .int .i64 a4] ?_; (with_reducible refine (aR_numbers.calls k3 (rdOf ByteArray.empty t282 x16_3) a3 a4 t295 false _ A53.out).mono ?_); rintro e w61 ⟨v297, rfl, ho0, hb⟩; refine ⟨_, rfl, ?_⟩; replace HO_14 := zRb HO_14 hb; replace HO_15 := Zs.mk (Kd.S_elder' (zS HO_15) (Kd.R_base ho0) hb); have HO298 := Zs.mk (Kd.R_lower ho0 (bsz zB)); replace HB := zBs hb))
             go_ret2
             exact ⟨_, by first | rfl | (simp [errW_none, errW_some] <;> rfl) | (simp only [← hji14, ← hji35]; first | rfl | (simp [errW_none, errW_some] <;> rfl)) | (simp [*, errW_none, errW_some] <;> rfl), by first | exact Kd.S_nil _ _ _ _ _ | exact Kd.N_nil _ _ _ _ _ | exact Kd.V_nil _ _ _ _ _ | exact Kd.Q_nil _ _ _ _ _ | exact Kd.R_nil _ _ _ _ _, zB⟩
          ·
           rw [if_neg c40] at H
           have c40b0 := decide_eq_false c40; clear c40
           have c62 := zc H
           rw [if_pos c62] at H
           have c62b0 := eq_true c62; have c62b1 := decide_eq_true c62; clear c62
           have c63 := zc H
           rw [if_pos c63] at H
           have c63b0 := eq_true c63; have c63b1 := decide_eq_true c63; clear c63; obtain ⟨t285, A64, H⟩ := zb H; (try dsimp only [-Int.reduceToNat] at H)
           by_cases c65 : t285.toList = (a0.extract ((ji14) : Int).toNat a0.size).toList
           ·
            rw [if_pos c65] at H
            obtain ⟨c65b0, c65b1⟩ := zeq c65; clear c65
            simp only [Option.some.injEq, Prod.mk.injEq] at H
            obtain ⟨rfl, rfl⟩ := H; obtain ⟨Ao66, co66, eo66⟩ := Kd.R_slice HO_14.out; subst eo66
            go_wp2_with (first | ((with_reducible refine gkc (f := 11) rfl ?_); refine goesL_ (some 100) rfl rfl Tryz.func11 (by kernel_rfl) rfl #[.string (a0.extract 0 ((ji14) : Int).toNat)] rfl (by (try simp only [List.map_toArray, List.map_cons, List.map_nil]); first | done | (simp only [hji14]; rfl) | rfl | (simp only [List.length_drop, List.length_take]; rfl)) ?_; (with_reducible refine (aR_End.calls k3 (a0.extract 0 ((ji14) : Int).toNat) t285 _ A64.out).mono ?_); rintro e w' ⟨rfl, ⟨nd, rfl⟩⟩; refine ⟨_, rfl, ?_⟩))
            go_ret2
            exact ⟨_, by first | rfl | (simp [errW_none, errW_some] <;> rfl) | (simp only [← hji14, ← hji35]; first | rfl | (simp [errW_none, errW_some] <;> rfl)) | (simp [*, errW_none, errW_some] <;> rfl), zS HO_15, zB⟩
           ·
            rw [if_neg c65] at H
            obtain ⟨c65b0, c65b1⟩ := zne c65
            simp only [Option.some.injEq, Prod.mk.injEq] at H
            obtain ⟨rfl, rfl⟩ := H; obtain ⟨Ao67, co67, eo67⟩ := Kd.R_slice HO_14.out; subst eo67
            go_wp2_with (first | ((with_reducible refine gkc (f := 11) rfl ?_); refine goesL_ (some 100) rfl rfl Tryz.func11 (by kernel_rfl) rfl #[.string (a0.extract 0 ((ji14) : Int).toNat)] rfl (by (try simp only [List.map_toArray, List.map_cons, List.map_nil]); first | done | (simp only [hji14]; rfl) | rfl | (simp only [List.length_drop, List.length_take]; rfl)) ?_; (with_reducible refine (aR_End.calls k3 (a0.extract 0 ((ji14) : Int).toNat) t285 _ A64.out).mono ?_); rintro e w' ⟨rfl, ⟨nd, rfl⟩⟩; refine ⟨_, rfl, ?_⟩))
            go_ret2
            exact ⟨_, by first | rfl | (simp [errW_none, errW_some] <;> rfl) | (simp only [← hji14, ← hji35]; first | rfl | (simp [errW_none, errW_some] <;> rfl)) | (simp [*, errW_none, errW_some] <;> rfl), by first | exact Kd.S_nil _ _ _ _ _ | exact Kd.N_nil _ _ _ _ _ | exact Kd.V_nil _ _ _ _ _ | exact Kd.Q_nil _ _ _ _ _ | exact Kd.R_nil _ _ _ _ _, zB⟩
end
end Go.Proofs.YtndojpcjhkncgaaGreatDoor.Q
end
