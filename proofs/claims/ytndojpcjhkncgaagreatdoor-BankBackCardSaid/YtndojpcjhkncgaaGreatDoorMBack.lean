/- The law BankBack: whatever the input, the call returns true, and the arguments read as they did. -/
import Derived.Test.YtndojpcjhkncgaaGreatDoorTie
import Derived.Test.YtndojpcjhkncgaaGreatDoorCards
import Derived.Deep.DeepHandedRow
import Derived.Deep.DeepWitnessRowRef
import Derived.SevenTiedAt
import Derived.Test.YtndojpcjhkncgaaGreatDoorMBack4
/- The law BankBack: whatever the input, the call returns true, and the arguments read as they did. -/
namespace Go.Proofs.YtndojpcjhkncgaaGreatDoor.Q
open Go Go.ChangeShapes Go.WideShapes Go.ChangeAt Go.RowKit Go.Proofs.YtndojpcjhkncgaaGreatDoorW.PrintWords
open Go.ChangeMaps (open_string)
set_option linter.unusedVariables false
set_option linter.unusedSimpArgs false
theorem back_witness (os : Os) {H : Type} (enc : TypeId × Value → H) :
    (OpenSpec.ofChange Rows.bankBackSpec).preRow enc Tryz.prog Tryz.f7 [] false Rows.bankBackRow.laid ((doorZ os).forCall (fun _ _ => 0) ⟨#[], #[.agg #[.int .i64 0, .int .i64 0, .slice none 0 0], .agg #[.int .i64 0, .int .i64 0, .slice none 0 0]], []⟩).memory #[.agg #[.int .i64 0, .int .i64 0, .slice none 0 0], .agg #[.int .i64 0, .int .i64 0, .slice none 0 0]] := by
  have hw : (DataW.whole enc Tryz.prog ((doorZ os).forCall (fun _ _ => 0) ⟨#[], #[.agg #[.int .i64 0, .int .i64 0, .slice none 0 0], .agg #[.int .i64 0, .int .i64 0, .slice none 0 0]], []⟩).memory Tryz.f7.params.toList (OpenSpec.ofChange Rows.bankBackSpec).vars false (#[.agg #[.int .i64 0, .int .i64 0, .slice none 0 0], .agg #[.int .i64 0, .int .i64 0, .slice none 0 0]] : Array Value).toList 8).isSome = true := by kernel_rfl
  obtain ⟨x, hx⟩ := Option.isSome_iff_exists.mp hw
  exact OpenSpec.preRow_of_cond 8 hx (by kernel_rfl) (fun k hk => by cases hk) (by kernel_rfl) (door_met os _)
set_option maxRecDepth 100000 in
theorem back_lifted (os : Os) (started : os.Started) (H : Type) (enc : TypeId × Value → H) (F : Stop.Interp) :
    ReturnsInHanded {} Tryz.checked os 7 .any ((OpenSpec.ofChange Rows.bankBackSpec).preRow enc Tryz.prog Tryz.f7 [] false Rows.bankBackRow.laid)
      (((OpenSpec.ofChange Rows.bankBackSpec).at F).post enc Tryz.prog Tryz.f7 false true false false) := by
  refine returnsInHanded_of_row (C := Tryz.checked) (s := OpenSpec.ofChange Rows.bankBackSpec) own started (by kernel_rfl) Tryz.func7
    (witness_row_atRef (enc := enc) (C := Tryz.checked) false (doorZ os) #[.agg #[.int .i64 0, .int .i64 0, .slice none 0 0], .agg #[.int .i64 0, .int .i64 0, .slice none 0 0]] rfl (by kernel_rfl) (by kernel_rfl) (by kernel_rfl) (back_witness os enc)) ?_
  intro W base args ds gs before hval0 hW _ _ hsz0 hL hsh _
  have hsz : (DataW.weightsEach Tryz.prog (Tryz.f7.params.toList ++ (OpenSpec.ofChange Rows.bankBackSpec).bare.plain.varTypes Tryz.prog) (ds ++ gs)).all (· ≤ reachBytes) = true := hsz0
  have hval : ∀ (j : Nat) t v, Tryz.f7.params[j]? = some t → args[j]? = some v → Value.okWide Tryz.prog W .any base t v := hval0
  have hW' := hW
  obtain ⟨p, q, hA0, hV, rfl, hfz, hnd⟩ := hW
  have hA : DataW.TrodAll enc Tryz.prog W 0 (fun _ => true) true Tryz.f7.params.toList args.toList ds p := hA0
  rw [Tryz.params7] at hA hval hsz
  obtain ⟨v0, vs0, d0, ds0, p0, q0, hargs, rfl, rfl, h0, r0⟩ := trodAll_cons hA
  obtain ⟨v1, vs1, d1, ds1, p1, q1, rfl, rfl, rfl, h1, r1⟩ := trodAll_cons r0
  obtain ⟨rfl, rfl, rfl⟩ := trodAll_nil r1
  obtain rfl : args = #[v0, v1] := by cases args; simp_all
  obtain ⟨rfl, rfl⟩ := trodVars_none hV
  have g := gg_of_laid hL hsh
  obtain ⟨⟨n0, m0, l0⟩, K0, s0⟩ := open_arg opens_file h0 (weights_at hsz (j := 0) rfl rfl)
  obtain ⟨c00, c01, e0, rfl, c02, c03, rfl, rfl, A0, k0, rfl, hl0, R0⟩ := K0
  obtain rfl := arg_struct Tryz.underlying27 (hval 0 27 v0 rfl rfl) e0
  unfold reachBytes at s0
  have s0' : l0.length * 40 ≤ 0x7ffffffff000 := s0
  obtain ⟨⟨n1, m1, l1⟩, K1, s1⟩ := open_arg opens_answer h1 (weights_at hsz (j := 1) rfl rfl)
  obtain ⟨c10, c11, e1, rfl, c12, c13, rfl, rfl, A1, k1, rfl, hl1, R1⟩ := K1
  obtain rfl := arg_struct Tryz.underlying30 (hval 1 30 v1 rfl rfl) e1
  unfold reachBytes at s1
  have s1' : l1.length * 16 ≤ 0x7ffffffff000 := s1
  have t0 := arg_lt h0
  have t1 := arg_lt h1
  clear hA0 hval0 hsz0 hsz
  obtain ⟨k, hk⟩ := back_ev n0 m0 l0 n1 m1 l1 (by omega) (by omega)
  refine (annuitantlaw36_BankBack.calls k n0 m0 A0 k0 l0 n1 m1 A1 k1 l1 true W R0 hl0 R1 hl1 g (hk k (Nat.le_refl k))).mono fun e W' ⟨he, bel⟩ => ?_
  subst he
  exact ⟨_, rfl, _, _, _, [], _, [], hW', trodAll_mk1 (shut_bool Tryz.underlying4 _), (trodAll_cons_mk (Below.trod laidOut (by kernel_rfl) (of_decide_eq_true (by kernel_rfl)) h0 bel t0) (trodAll_cons_mk (Below.trod laidOut (by kernel_rfl) (of_decide_eq_true (by kernel_rfl)) h1 bel t1) trodAll_mk0)), rfl, bel.frame _, fun h => by cases h⟩
theorem back_row : Rows.BankBackSaid :=
  OpenClaim.holds_of_cond 7 Tryz.f7 rfl rfl rfl rfl rfl rfl rfl ⟨rfl, rfl, rfl, rfl, rfl⟩ rfl rfl rfl rfl rfl (by kernel_rfl) Tryz.func7 (by kernel_rfl)
    (of_decide_eq_true (by kernel_rfl)) (by unfold Func.isWrapper; first | (rw [if_pos (by decide +kernel)]; kernel_rfl) | (rw [if_neg (by decide +kernel)]; exact ⟨rfl, rfl⟩))
    (fun os started H enc _ F0 => by rw [OpenClaim.pre_eq_preRow]; exact back_lifted os started H enc F0)
end Go.Proofs.YtndojpcjhkncgaaGreatDoor.Q
namespace Go.Proofs.YtndojpcjhkncgaaGreatDoor
theorem bankBack_card : Rows.BankBackCardSaid :=
  Claim7.holds_tied_plain_at .later [] [.data, .data, .data, .data, .sentinel, .sentinel, .pinned] true Rows.bankBackCard.stood.harness true
    Q.back_row (fun _ h => by cases h) (by kernel_rfl) (fun _ h => by cases h) bankBack_row_tie rfl ⟨rfl, rfl⟩ (by kernel_rfl) rfl
    (fun f fn hf hfn => by
      obtain rfl : f = 7 := Option.some.inj ((show Tryz.prog.funcNamed "annuitant/annuitantlaw36.BankBack" = some 7 by kernel_rfl).symm.trans hf) |>.symm
      obtain rfl : fn = Tryz.f7 := (Option.some.inj (Tryz.func7.symm.trans hfn)).symm
      exact ⟨by kernel_rfl, fun j t ht => by
        rw [Tryz.params7] at ht
        have hm : t ∈ [27, 30] := by simpa using Array.mem_of_getElem? ht
        have hall : ([27, 30].all fun u => !Tryz.prog.wantsStandIn u) = true := by kernel_rfl
        exact (show Tryz.prog.wantsStandIn t = false by simpa using List.all_eq_true.1 hall t hm)⟩)
    (by kernel_rfl)
#print axioms bankBack_card
end Go.Proofs.YtndojpcjhkncgaaGreatDoor
