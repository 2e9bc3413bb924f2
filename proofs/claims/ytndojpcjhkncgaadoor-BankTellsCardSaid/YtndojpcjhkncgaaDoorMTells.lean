/- The law BankTells: for every file and every answer the call returns true, and the arguments read as they did. -/
import Derived.Test.YtndojpcjhkncgaaDoorTie
import Derived.Test.YtndojpcjhkncgaaDoorCards
import Derived.SevenTiedAt
import Derived.Test.YtndojpcjhkncgaaDoorMTells7
namespace Go.Proofs.YtndojpcjhkncgaaDoor.Q
open Go.ChangeShapes Go.WideShapes Go.ChangeAt Go.RowKit Go.Proofs.YtndojpcjhkncgaaDoorW.PrintWords
set_option linter.unusedVariables false
set_option linter.unusedSimpArgs false

theorem opens_order : Opens Tryd.prog 45 k45 (fun _ => True) :=
  opens_imp (opens_iso (d := Kd.pair (Kd.int .i64) (Kd.pair (Kd.int .i64) (Kd.pair (Kd.int .i64) (Kd.pair (Kd.int .i64) (Kd.int .i64))))) (fun x : S45 => (x.f0, x.f1, x.f2, x.f3, x.f4)) (fun y => ⟨y.1, y.2.1, y.2.2.1, y.2.2.2.1, y.2.2.2.2⟩) (fun _ => rfl)
    (opens_struct Tryd.underlying45 (by kernel_rfl) (opensF_cons (opens_int Tryd.underlying3) (by kernel_rfl) rfl (opensF_cons (opens_int Tryd.underlying3) (by kernel_rfl) rfl (opensF_cons (opens_int Tryd.underlying3) (by kernel_rfl) rfl (opensF_cons (opens_int Tryd.underlying3) (by kernel_rfl) rfl (opensF_one (opens_int Tryd.underlying3) (by kernel_rfl) rfl))))))) (fun _ _ => trivial)
theorem opens_return : Opens Tryd.prog 48 k48 (fun _ => True) :=
  opens_imp (opens_iso (d := Kd.pair (Kd.int .i64) (Kd.int .i64)) (fun x : S48 => (x.f0, x.f1)) (fun y => ⟨y.1, y.2⟩) (fun _ => rfl)
    (opens_struct Tryd.underlying48 (by kernel_rfl) (opensF_cons (opens_int Tryd.underlying3) (by kernel_rfl) rfl (opensF_one (opens_int Tryd.underlying3) (by kernel_rfl) rfl)))) (fun _ _ => trivial)
theorem opens_file : Opens Tryd.prog 24 (Kd.pair (Kd.int .i64) (Kd.pair (Kd.int .i64) (Kd.slice 45 k45))) (fun x => x.2.2.length * 40 ≤ reachBytes) :=
  opens_imp (opens_struct Tryd.underlying24 (by kernel_rfl) (opensF_cons (opens_int Tryd.underlying3) (by kernel_rfl) rfl (opensF_cons (opens_int Tryd.underlying3) (by kernel_rfl) rfl (opensF_one (opens_slice (q := 45) (b := 40) Tryd.underlying22 (by kernel_rfl) (by kernel_rfl) opens_order) (by kernel_rfl) rfl)))) (fun x h => h.2.2.1)
theorem opens_answer : Opens Tryd.prog 27 (Kd.pair (Kd.int .i64) (Kd.pair (Kd.int .i64) (Kd.slice 48 k48))) (fun x => x.2.2.length * 16 ≤ reachBytes) :=
  opens_imp (opens_struct Tryd.underlying27 (by kernel_rfl) (opensF_cons (opens_int Tryd.underlying3) (by kernel_rfl) rfl (opensF_cons (opens_int Tryd.underlying3) (by kernel_rfl) rfl (opensF_one (opens_slice (q := 48) (b := 16) Tryd.underlying25 (by kernel_rfl) (by kernel_rfl) opens_return) (by kernel_rfl) rfl)))) (fun x h => h.2.2.1)

set_option maxRecDepth 100000 in
theorem tells_lifted (os : Os) (started : os.Started) (H : Type) (enc : TypeId × Value → H) :
    ReturnsInHanded {} Tryd.checked os 3 .any (fun w args => (Rows.bankTellsSpec.pre enc Tryd.prog Tryd.f3 [] false w args ∧ laidMetH Tryd.prog laidAll w) ∧ sizedMet enc Tryd.prog Tryd.f3 (OpenSpec.ofChange Rows.bankTellsSpec) false w args)
      (Rows.bankTellsSpec.post enc Tryd.prog Tryd.f3 false true false false) := by
  refine returnsInHanded_of_change_and (C := Tryd.checked) (X := fun w _ => laidMetH Tryd.prog laidAll w) (fun _ _ _ hh h => h.of_heap hh) own started (by kernel_rfl) Tryd.func3
    (ChangeSpec.witness_shaped (enc := enc) (C := Tryd.checked) (os := os) (X := fun w _ => laidMetH Tryd.prog laidAll w) false (World.doorLaid Tryd.prog 24 os) #[.agg #[.int .i64 0, .int .i64 0, .slice none 0 0], .agg #[.int .i64 0, .int .i64 0, .slice none 0 0]] 8 rfl (World.shaped_of_RefB (by kernel_rfl) (by kernel_rfl)) (by kernel_rfl) (by kernel_rfl) (by kernel_rfl) (door_met os _)) ?_
  intro W base args ds gs before hval0 hW _ hsz0 hL _
  have hsz : (DataW.weightsEach Tryd.prog (Tryd.f3.params.toList ++ Rows.bankTellsSpec.plain.varTypes Tryd.prog) (ds ++ gs)).all (· ≤ reachBytes) = true := hsz0
  have hval : ∀ (j : Nat) t v, Tryd.f3.params[j]? = some t → args[j]? = some v → Value.okWide Tryd.prog W .any base t v := hval0
  have hW' := hW
  obtain ⟨p, q, hA0, hV, rfl, hfz, hnd⟩ := hW
  have hA : DataW.TrodAll enc Tryd.prog W 0 (fun _ => true) true Tryd.f3.params.toList args.toList ds p := hA0
  rw [Tryd.params3] at hA hval hsz
  obtain ⟨v0, vs0, d0, ds0, p0, q0, hargs, rfl, rfl, h0, r0⟩ := trodAll_cons hA
  obtain ⟨v1, vs1, d1, ds1, p1, q1, rfl, rfl, rfl, h1, r1⟩ := trodAll_cons r0
  obtain ⟨rfl, rfl, rfl⟩ := trodAll_nil r1
  obtain rfl : args = #[v0, v1] := by cases args; simp_all
  obtain ⟨rfl, rfl⟩ := trodVars_none hV
  have g := gg_of_laid hL
  obtain ⟨⟨n0, m0, l0⟩, K0, s0⟩ := open_arg opens_file h0 (weights_at hsz (j := 0) rfl rfl)
  obtain ⟨⟨n1, m1, l1⟩, K1, s1⟩ := open_arg opens_answer h1 (weights_at hsz (j := 1) rfl rfl)
  obtain ⟨c00, c01, e0, rfl, c02, c03, rfl, rfl, A0, k0, rfl, hl0, R0⟩ := K0
  obtain ⟨c10, c11, e1, rfl, c12, c13, rfl, rfl, A1, k1, rfl, hl1, R1⟩ := K1
  obtain rfl := arg_struct Tryd.underlying24 (hval 0 24 v0 rfl rfl) e0
  obtain rfl := arg_struct Tryd.underlying27 (hval 1 27 v1 rfl rfl) e1
  have t0 := arg_lt h0
  have t1 := arg_lt h1
  clear hA0 hval0 hsz0 hsz
  unfold reachBytes at s0 s1
  have s0' : l0.length * 40 ≤ 0x7ffffffff000 := s0
  have s1' : l1.length * 16 ≤ 0x7ffffffff000 := s1
  obtain ⟨k, hk⟩ := tells_ev n0 m0 l0 n1 m1 l1 (by omega) (by omega)
  refine (annuitantlaw36_BankTells.calls k n0 m0 A0 k0 l0 n1 m1 A1 k1 l1 true W R0 hl0 R1 hl1 g (hk k (Nat.le_refl k))).mono fun e W' ⟨he, bel⟩ => ?_
  subst he
  exact ⟨_, rfl, _, _, _, [], _, [], hW', trodAll_mk1 (shut_bool Tryd.underlying4 _), trodAll_cons_mk (Below.trod laidOut (by kernel_rfl) (of_decide_eq_true (by kernel_rfl)) h0 bel t0) (trodAll_cons_mk (Below.trod laidOut (by kernel_rfl) (of_decide_eq_true (by kernel_rfl)) h1 bel t1) trodAll_mk0), rfl, bel.frame _, fun h => by cases h⟩
theorem tells_row : Rows.BankTellsSaid :=
  OpenClaim.holds_of_wide 3 Tryd.f3 rfl rfl rfl rfl rfl rfl rfl ⟨rfl, rfl, rfl, rfl, rfl⟩ rfl rfl rfl rfl rfl (by kernel_rfl) Tryd.func3 (by kernel_rfl)
    (of_decide_eq_true (by kernel_rfl)) (by unfold Func.isWrapper; first | (rw [if_pos (by decide +kernel)]; kernel_rfl) | (rw [if_neg (by decide +kernel)]; exact ⟨rfl, rfl⟩))
    (fun os started H enc _ => tells_lifted os started H enc)
end Go.Proofs.YtndojpcjhkncgaaDoor.Q
namespace Go.Proofs.YtndojpcjhkncgaaDoor
theorem bankTells_card : Rows.BankTellsCardSaid :=
  Claim7.holds_tied_plain_at .later [] [.data, .data, .data] true Rows.bankTellsCard.stood.harness false
    Q.tells_row (fun _ h => by cases h) (by kernel_rfl) (fun _ h => by cases h) bankTells_row_tie rfl ⟨rfl, rfl⟩ (by kernel_rfl) rfl
    (fun f fn hf hfn => by
      obtain rfl : f = 3 := Option.some.inj ((show Tryd.prog.funcNamed "annuitant/annuitantlaw36.BankTells" = some 3 by kernel_rfl).symm.trans hf) |>.symm
      obtain rfl : fn = Tryd.f3 := (Option.some.inj (Tryd.func3.symm.trans hfn)).symm
      exact ⟨by kernel_rfl, fun j t ht => by
        rw [Tryd.params3] at ht
        have hm : t ∈ [24, 27] := by simpa using Array.mem_of_getElem? ht
        have hall : ([24, 27].all fun u => !Tryd.prog.wantsStandIn u) = true := by kernel_rfl
        exact (show Tryd.prog.wantsStandIn t = false by simpa using List.all_eq_true.1 hall t hm)⟩)
    (by kernel_rfl)
#print axioms bankTells_card
end Go.Proofs.YtndojpcjhkncgaaDoor
