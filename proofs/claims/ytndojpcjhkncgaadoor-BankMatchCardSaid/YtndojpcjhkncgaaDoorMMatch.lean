/- The law BankMatch: for every file and every answer the call returns true, and the arguments read as they did. -/
import Derived.Test.YtndojpcjhkncgaaDoorTie
import Derived.Test.YtndojpcjhkncgaaDoorCards
import Derived.SevenTiedAt
import Derived.Test.YtndojpcjhkncgaaDoorMMatch4
import Derived.Test.YtndojpcjhkncgaaDoorMMatch5
namespace Go.Proofs.YtndojpcjhkncgaaDoor.Q
open Go.ChangeShapes Go.WideShapes Go.ChangeAt Go.RowKit Go.Proofs.YtndojpcjhkncgaaDoorW.PrintWords
set_option linter.unusedVariables false
set_option linter.unusedSimpArgs false

set_option maxRecDepth 100000 in
theorem match_lifted (os : Os) (started : os.Started) (H : Type) (enc : TypeId × Value → H) :
    ReturnsInHanded {} Tryd.checked os 4 .any (fun w args => (Rows.bankMatchSpec.pre enc Tryd.prog Tryd.f4 [] false w args ∧ laidMetH Tryd.prog laidAll w) ∧ sizedMet enc Tryd.prog Tryd.f4 (OpenSpec.ofChange Rows.bankMatchSpec) false w args)
      (Rows.bankMatchSpec.post enc Tryd.prog Tryd.f4 false true false false) := by
  refine returnsInHanded_of_change_and (C := Tryd.checked) (X := fun w _ => laidMetH Tryd.prog laidAll w) (fun _ _ _ hh h => h.of_heap hh) own started (by kernel_rfl) Tryd.func4
    (ChangeSpec.witness_shaped (enc := enc) (C := Tryd.checked) (os := os) (X := fun w _ => laidMetH Tryd.prog laidAll w) false (World.doorLaid Tryd.prog 24 os) #[.agg #[.int .i64 0, .int .i64 0, .slice none 0 0], .agg #[.int .i64 0, .int .i64 0, .slice none 0 0]] 8 rfl (World.shaped_of_RefB (by kernel_rfl) (by kernel_rfl)) (by kernel_rfl) (by kernel_rfl) (by kernel_rfl) (door_met os _)) ?_
  intro W base args ds gs before hval0 hW _ hsz0 hL _
  have hsz : (DataW.weightsEach Tryd.prog (Tryd.f4.params.toList ++ Rows.bankMatchSpec.plain.varTypes Tryd.prog) (ds ++ gs)).all (· ≤ reachBytes) = true := hsz0
  have hval : ∀ (j : Nat) t v, Tryd.f4.params[j]? = some t → args[j]? = some v → Value.okWide Tryd.prog W .any base t v := hval0
  have hW' := hW
  obtain ⟨p, q, hA0, hV, rfl, hfz, hnd⟩ := hW
  have hA : DataW.TrodAll enc Tryd.prog W 0 (fun _ => true) true Tryd.f4.params.toList args.toList ds p := hA0
  rw [Tryd.params4] at hA hval hsz
  obtain ⟨v0, vs0, d0, ds0, p0, q0, hargs, rfl, rfl, h0, r0⟩ := trodAll_cons hA
  obtain ⟨v1, vs1, d1, ds1, p1, q1, rfl, rfl, rfl, h1, r1⟩ := trodAll_cons r0
  obtain ⟨rfl, rfl, rfl⟩ := trodAll_nil r1
  obtain rfl : args = #[v0, v1] := by cases args; simp_all
  obtain ⟨rfl, rfl⟩ := trodVars_none hV
  have g := gg_of_laid hL
  obtain ⟨⟨n0, m0, l0⟩, K0, s0⟩ := open_arg opens_file h0 (weights_at hsz (j := 0) rfl rfl)
  obtain ⟨⟨n1, m1, l1⟩, K1, s1⟩ := open_arg opens_answer h1 (weights_at hsz (j := 1) rfl rfl)
  obtain ⟨c00, c01, e0, rfl, c02, c03, rfl, rfl, A0, k0, rfl, hl0, R0⟩ := K0
  obtain ⟨c10, c11, e1, rfl, c12, c13, rfl, rfl, A1, k1, rfl, hl1, R1⟩ := K1
  obtain rfl := arg_struct Tryd.underlying24 (hval 0 24 v0 rfl rfl) e0
  obtain rfl := arg_struct Tryd.underlying27 (hval 1 27 v1 rfl rfl) e1
  have t0 := arg_lt h0
  have t1 := arg_lt h1
  clear hA0 hval0 hsz0 hsz
  unfold reachBytes at s0 s1
  have s0' : l0.length * 40 ≤ 0x7ffffffff000 := s0
  have s1' : l1.length * 16 ≤ 0x7ffffffff000 := s1
  obtain ⟨k, hA, hV, hR, hM⟩ := match_facts n0 m0 l0 n1 m1 l1 (by omega) (by omega)
  refine (BankMatch_calls W g k n0 m0 A0 k0 l0 n1 m1 A1 k1 l1 R0 hl0 R1 hl1 hA _ _ hV hR (fun hv hr => ⟨_, _, hM, told_of hv hr, fun o ho => kw_of (valid_nums hv o ho), fun r hr' => kw_of (backs_num l1 0 (right_parts' hr).1 r hr')⟩)).mono fun e W' ⟨he, bel⟩ => ?_
  subst he
  exact ⟨_, rfl, _, _, _, [], _, [], hW', trodAll_mk1 (shut_bool Tryd.underlying4 _), trodAll_cons_mk (Below.trod laidOut (by kernel_rfl) (of_decide_eq_true (by kernel_rfl)) h0 bel t0) (trodAll_cons_mk (Below.trod laidOut (by kernel_rfl) (of_decide_eq_true (by kernel_rfl)) h1 bel t1) trodAll_mk0), rfl, bel.frame _, fun h => by cases h⟩
theorem match_row : Rows.BankMatchSaid :=
  OpenClaim.holds_of_wide 4 Tryd.f4 rfl rfl rfl rfl rfl rfl rfl ⟨rfl, rfl, rfl, rfl, rfl⟩ rfl rfl rfl rfl rfl (by kernel_rfl) Tryd.func4 (by kernel_rfl)
    (of_decide_eq_true (by kernel_rfl)) (by unfold Func.isWrapper; first | (rw [if_pos (by decide +kernel)]; kernel_rfl) | (rw [if_neg (by decide +kernel)]; exact ⟨rfl, rfl⟩))
    (fun os started H enc _ => match_lifted os started H enc)
end Go.Proofs.YtndojpcjhkncgaaDoor.Q
namespace Go.Proofs.YtndojpcjhkncgaaDoor
theorem bankMatch_card : Rows.BankMatchCardSaid :=
  Claim7.holds_tied_plain_at .later [] [.data, .data, .data] true Rows.bankMatchCard.stood.harness false
    Q.match_row (fun _ h => by cases h) (by kernel_rfl) (fun _ h => by cases h) bankMatch_row_tie rfl ⟨rfl, rfl⟩ (by kernel_rfl) rfl
    (fun f fn hf hfn => by
      obtain rfl : f = 4 := Option.some.inj ((show Tryd.prog.funcNamed "annuitant/annuitantlaw36.BankMatch" = some 4 by kernel_rfl).symm.trans hf) |>.symm
      obtain rfl : fn = Tryd.f4 := (Option.some.inj (Tryd.func4.symm.trans hfn)).symm
      exact ⟨by kernel_rfl, fun j t ht => by
        rw [Tryd.params4] at ht
        have hm : t ∈ [24, 27] := by simpa using Array.mem_of_getElem? ht
        have hall : ([24, 27].all fun u => !Tryd.prog.wantsStandIn u) = true := by kernel_rfl
        exact (show Tryd.prog.wantsStandIn t = false by simpa using List.all_eq_true.1 hall t hm)⟩)
    (by kernel_rfl)
#print axioms bankMatch_card
end Go.Proofs.YtndojpcjhkncgaaDoor
