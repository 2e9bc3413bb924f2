/- Part 5 of a proof: the texts QFlaw36awake, QFlaw36sameOrders, put together by a program of this repo. -/
import Derived.Test.YtndojpcjhkncgaaDoorMTells1
import Derived.Test.YtndojpcjhkncgaaDoorMTells4
import Derived.Test.YtndojpcjhkncgaaDoorMTells2
import Derived.Test.YtndojpcjhkncgaaDoorMTells3

section
namespace Go.Proofs.YtndojpcjhkncgaaDoor.Q
open Go.RowKit Go.Proofs.YtndojpcjhkncgaaDoorW.PrintWords Go.Proofs.YtndojpcjhkncgaaDoorW.PrintLast Go.Proofs.YtndojpcjhkncgaaDoorW.PrintMore
attribute [local go_sem] max2_int min2_int max_two min_two max_three min_three max_four min_four   -- for this text's walks alone
set_option linter.unusedVariables false
set_option linter.unusedSimpArgs false

attribute [local go_sem high] eqA45
/-! ### annuitantlaw36_awake: function 11 -/
def annuitantlaw36_awake.f (k : Nat)  : Option (Bool) := (annuitantlaw36_two.f).bind fun bt170 => ((bank_Total.f k bt170.1 bt170.2.1 bt170.2.2.1).bind fun bt182 => ((bank_Write.f k bt170.1 bt170.2.1 bt170.2.2.1).bind fun bt184 => ((bank_WriteAnswer.f k bt170.2.2.2.1 bt170.2.2.2.2.1 bt170.2.2.2.2.2).bind fun bt186 => ((bank_Match.f k bt170.1 bt170.2.1 bt170.2.2.1 bt170.2.2.2.1 bt170.2.2.2.2.1 bt170.2.2.2.2.2).bind fun bt188 => ((bank_Write.f k 1 0 ([] : List (S45))).bind fun bt192 => (if bt182.2 = 0 then (if bt182.1 = 850 then (if bt184.2 = 0 then (if bt186.2 = 0 then (if (bt184.1.size : Int) = 81 then (if (bt186.1.size : Int) = 46 then (if 0 ≤ 63 then (if 63 ≤ (bt184.1.size : Int) then (if (bt184.1.extract 0 63).toList = ([80, 65, 89, 32, 55, 32, 49, 48, 48, 32, 50, 32, 56, 53, 48, 10, 111, 114, 100, 101, 114, 32, 51, 32, 53, 53, 32, 49, 48, 48, 48, 32, 50, 48, 48, 32, 56, 48, 48, 10, 111, 114, 100, 101, 114, 32, 52, 32, 53, 54, 32, 53, 48, 32, 48, 32, 53, 48, 10, 69, 78, 68, 32] : List UInt8) then (if 0 ≤ 28 then (if 28 ≤ (bt186.1.size : Int) then (if (bt186.1.extract 0 28).toList = ([66, 65, 67, 75, 32, 55, 32, 49, 48, 50, 32, 49, 10, 114, 101, 116, 117, 114, 110, 32, 52, 32, 50, 10, 69, 78, 68, 32] : List UInt8) then (if bt188.2 = 0 then (if (bt188.1.length : Int) = 1 then (if 0 < (bt188.1.length : Int) then (if 1 < (bt170.2.2.1.length : Int) then (if (((rd_T45 bt188.1 0).f0) == ((rd_T45 bt170.2.2.1 1).f0) && (((rd_T45 bt188.1 0).f1) == ((rd_T45 bt170.2.2.1 1).f1) && (((rd_T45 bt188.1 0).f2) == ((rd_T45 bt170.2.2.1 1).f2) && (((rd_T45 bt188.1 0).f3) == ((rd_T45 bt170.2.2.1 1).f3) && (((rd_T45 bt188.1 0).f4) == ((rd_T45 bt170.2.2.1 1).f4)))))) = true then (if bt192.2 = 0 then (some (bt192.1.toList == ([80, 65, 89, 32, 49, 32, 48, 32, 48, 32, 48, 10, 69, 78, 68, 32, 48, 48, 48, 48, 48, 50, 51, 53, 32, 48, 48, 48, 48, 48, 98, 100, 97, 10] : List UInt8))) else (none)) else (none)) else (none)) else (none)) else (none)) else (none)) else (some false)) else (none)) else (none)) else (none)) else (none)) else (none)) else (none)) else (none)) else (none)) else (none)) else (none)) else (none)))))))
theorem annuitantlaw36_awake.mono : ∀ k, LeO (annuitantlaw36_awake.f k ) (annuitantlaw36_awake.f (k + 1) ) := by
 intro  k
 unfold annuitantlaw36_awake.f
 repeat' first
   | (with_reducible exact bank_Match.mono _ _ _ _ _ _ _)
   | (with_reducible exact bank_Total.mono _ _ _ _)
   | (with_reducible exact bank_Write.mono _ _ _ _)
   | (with_reducible exact bank_WriteAnswer.mono _ _ _ _)
   | (with_reducible exact LeO.refl _)
   | (with_reducible exact LeO.none _)
   | (with_reducible refine LeO.ite ?_ ?_)
   | (with_reducible refine LeO.bind ?_ (fun _ => ?_))
   | exact bank_Match.mono _ _ _ _ _ _ _
   | exact bank_Total.mono _ _ _ _
   | exact bank_Write.mono _ _ _ _
   | exact bank_WriteAnswer.mono _ _ _ _
   | exact LeO.none _
   | refine LeO.ite ?_ ?_
   | refine LeO.bind ?_ (fun _ => ?_)
set_option maxHeartbeats 8000000 in
set_option maxRecDepth 100000 in
theorem annuitantlaw36_awake.calls (k : Nat)  (r : Bool) (w : World) (hG : GG w) (h : annuitantlaw36_awake.f k  = some r) :
  Calls Tryd.prog 11 #[] w fun e w' => e = .returned (.bool r) ∧ Below w.heap.size w w' := by
 have hu24 := Tryd.underlying24
 have hu27 := Tryd.underlying27
 have hu45 := Tryd.underlying45
 have HG := Aside0.mk hG
 clear hG
 have HB := Aside0.mk (Below.refl w.heap.size w)
 have H : ((annuitantlaw36_two.f).bind fun bt170 => ((bank_Total.f k bt170.1 bt170.2.1 bt170.2.2.1).bind fun bt182 => ((bank_Write.f k bt170.1 bt170.2.1 bt170.2.2.1).bind fun bt184 => ((bank_WriteAnswer.f k bt170.2.2.2.1 bt170.2.2.2.2.1 bt170.2.2.2.2.2).bind fun bt186 => ((bank_Match.f k bt170.1 bt170.2.1 bt170.2.2.1 bt170.2.2.2.1 bt170.2.2.2.2.1 bt170.2.2.2.2.2).bind fun bt188 => ((bank_Write.f k 1 0 ([] : List (S45))).bind fun bt192 => (if bt182.2 = 0 then (if bt182.1 = 850 then (if bt184.2 = 0 then (if bt186.2 = 0 then (if (bt184.1.size : Int) = 81 then (if (bt186.1.size : Int) = 46 then (if 0 ≤ 63 then (if 63 ≤ (bt184.1.size : Int) then (if (bt184.1.extract 0 63).toList = ([80, 65, 89, 32, 55, 32, 49, 48, 48, 32, 50, 32, 56, 53, 48, 10, 111, 114, 100, 101, 114, 32, 51, 32, 53, 53, 32, 49, 48, 48, 48, 32, 50, 48, 48, 32, 56, 48, 48, 10, 111, 114, 100, 101, 114, 32, 52, 32, 53, 54, 32, 53, 48, 32, 48, 32, 53, 48, 10, 69, 78, 68, 32] : List UInt8) then (if 0 ≤ 28 then (if 28 ≤ (bt186.1.size : Int) then (if (bt186.1.extract 0 28).toList = ([66, 65, 67, 75, 32, 55, 32, 49, 48, 50, 32, 49, 10, 114, 101, 116, 117, 114, 110, 32, 52, 32, 50, 10, 69, 78, 68, 32] : List UInt8) then (if bt188.2 = 0 then (if (bt188.1.length : Int) = 1 then (if 0 < (bt188.1.length : Int) then (if 1 < (bt170.2.2.1.length : Int) then (if (((rd_T45 bt188.1 0).f0) == ((rd_T45 bt170.2.2.1 1).f0) && (((rd_T45 bt188.1 0).f1) == ((rd_T45 bt170.2.2.1 1).f1) && (((rd_T45 bt188.1 0).f2) == ((rd_T45 bt170.2.2.1 1).f2) && (((rd_T45 bt188.1 0).f3) == ((rd_T45 bt170.2.2.1 1).f3) && (((rd_T45 bt188.1 0).f4) == ((rd_T45 bt170.2.2.1 1).f4)))))) = true then (if bt192.2 = 0 then (some (bt192.1.toList == ([80, 65, 89, 32, 49, 32, 48, 32, 48, 32, 48, 10, 69, 78, 68, 32, 48, 48, 48, 48, 48, 50, 51, 53, 32, 48, 48, 48, 48, 48, 98, 100, 97, 10] : List UInt8))) else (none)) else (none)) else (none)) else (none)) else (none)) else (none)) else (some false)) else (none)) else (none)) else (none)) else (none)) else (none)) else (none)) else (none)) else (none)) else (none)) else (none)) else (none)))))))) = some r := h
 clear h
 replace H := Option.bind_eq_some_iff.mp H
 obtain ⟨⟨t170, t171, t172, t175, t176, t177⟩, A10, H⟩ := H
 try dsimp only at H
 have A1 := Aside0.mk A10
 clear A10
 replace H := Option.bind_eq_some_iff.mp H
 obtain ⟨⟨t182, t183⟩, A20, H⟩ := H
 try dsimp only at H
 have A2 := Aside0.mk A20
 clear A20
 replace H := Option.bind_eq_some_iff.mp H
 obtain ⟨⟨t184, t185⟩, A30, H⟩ := H
 try dsimp only at H
 have A3 := Aside0.mk A30
 clear A30
 replace H := Option.bind_eq_some_iff.mp H
 obtain ⟨⟨t186, t187⟩, A40, H⟩ := H
 try dsimp only at H
 have A4 := Aside0.mk A40
 clear A40
 replace H := Option.bind_eq_some_iff.mp H
 obtain ⟨⟨t188, t191⟩, A50, H⟩ := H
 try dsimp only at H
 have A5 := Aside0.mk A50
 clear A50
 replace H := Option.bind_eq_some_iff.mp H
 obtain ⟨⟨t192, t193⟩, A60, H⟩ := H
 try dsimp only at H
 have A6 := Aside0.mk A60
 clear A60
 by_cases c7 : t183 = 0
 ·
  rw [if_pos c7] at H
  have c7b0 : (t183 == 0) = true := beq_iff_eq.mpr c7
  have c7b1 : (t183 != 0) = false := bne_eq_false_iff_eq.mpr c7
  clear c7
  by_cases c8 : t182 = 850
  ·
   rw [if_pos c8] at H
   have c8b0 : (t182 == 850) = true := beq_iff_eq.mpr c8
   have c8b1 : (t182 != 850) = false := bne_eq_false_iff_eq.mpr c8
   clear c8
   by_cases c9 : t185 = 0
   ·
    rw [if_pos c9] at H
    have c9b0 : (t185 == 0) = true := beq_iff_eq.mpr c9
    have c9b1 : (t185 != 0) = false := bne_eq_false_iff_eq.mpr c9
    clear c9
    by_cases c10 : t187 = 0
    ·
     rw [if_pos c10] at H
     have c10b0 : (t187 == 0) = true := beq_iff_eq.mpr c10
     have c10b1 : (t187 != 0) = false := bne_eq_false_iff_eq.mpr c10
     clear c10
     by_cases c11 : (t184.size : Int) = 81
     ·
      rw [if_pos c11] at H
      have c11b0 : ((t184.size : Int) == 81) = true := beq_iff_eq.mpr c11
      have c11b1 : ((t184.size : Int) != 81) = false := bne_eq_false_iff_eq.mpr c11
      clear c11
      by_cases c12 : (t186.size : Int) = 46
      ·
       rw [if_pos c12] at H
       have c12b0 : ((t186.size : Int) == 46) = true := beq_iff_eq.mpr c12
       have c12b1 : ((t186.size : Int) != 46) = false := bne_eq_false_iff_eq.mpr c12
       clear c12
       by_cases c13 : 0 ≤ 63
       ·
        rw [if_pos c13] at H
        have c13b0 := eq_true c13
        have c13b1 : decide (0 ≤ 63) = true := decide_eq_true c13
        clear c13
        by_cases c14 : 63 ≤ (t184.size : Int)
        ·
         rw [if_pos c14] at H
         have c14b0 := eq_true c14
         have c14b1 : decide (63 ≤ (t184.size : Int)) = true := decide_eq_true c14
         clear c14
         by_cases c15 : (t184.extract 0 63).toList = ([80, 65, 89, 32, 55, 32, 49, 48, 48, 32, 50, 32, 56, 53, 48, 10, 111, 114, 100, 101, 114, 32, 51, 32, 53, 53, 32, 49, 48, 48, 48, 32, 50, 48, 48, 32, 56, 48, 48, 10, 111, 114, 100, 101, 114, 32, 52, 32, 53, 54, 32, 53, 48, 32, 48, 32, 53, 48, 10, 69, 78, 68, 32] : List UInt8)
         ·
          rw [if_pos c15] at H
          have c15b0 : ((t184.extract 0 63).toList == ([80, 65, 89, 32, 55, 32, 49, 48, 48, 32, 50, 32, 56, 53, 48, 10, 111, 114, 100, 101, 114, 32, 51, 32, 53, 53, 32, 49, 48, 48, 48, 32, 50, 48, 48, 32, 56, 48, 48, 10, 111, 114, 100, 101, 114, 32, 52, 32, 53, 54, 32, 53, 48, 32, 48, 32, 53, 48, 10, 69, 78, 68, 32] : List UInt8)) = true := beq_iff_eq.mpr c15
          have c15b1 : ((t184.extract 0 63).toList != ([80, 65, 89, 32, 55, 32, 49, 48, 48, 32, 50, 32, 56, 53, 48, 10, 111, 114, 100, 101, 114, 32, 51, 32, 53, 53, 32, 49, 48, 48, 48, 32, 50, 48, 48, 32, 56, 48, 48, 10, 111, 114, 100, 101, 114, 32, 52, 32, 53, 54, 32, 53, 48, 32, 48, 32, 53, 48, 10, 69, 78, 68, 32] : List UInt8)) = false := bne_eq_false_iff_eq.mpr c15
          clear c15
          by_cases c16 : 0 ≤ 28
          ·
           rw [if_pos c16] at H
           have c16b0 := eq_true c16
           have c16b1 : decide (0 ≤ 28) = true := decide_eq_true c16
           clear c16
           by_cases c17 : 28 ≤ (t186.size : Int)
           ·
            rw [if_pos c17] at H
            have c17b0 := eq_true c17
            have c17b1 : decide (28 ≤ (t186.size : Int)) = true := decide_eq_true c17
            clear c17
            by_cases c18 : (t186.extract 0 28).toList = ([66, 65, 67, 75, 32, 55, 32, 49, 48, 50, 32, 49, 10, 114, 101, 116, 117, 114, 110, 32, 52, 32, 50, 10, 69, 78, 68, 32] : List UInt8)
            ·
             rw [if_pos c18] at H
             have c18b0 : ((t186.extract 0 28).toList == ([66, 65, 67, 75, 32, 55, 32, 49, 48, 50, 32, 49, 10, 114, 101, 116, 117, 114, 110, 32, 52, 32, 50, 10, 69, 78, 68, 32] : List UInt8)) = true := beq_iff_eq.mpr c18
             have c18b1 : ((t186.extract 0 28).toList != ([66, 65, 67, 75, 32, 55, 32, 49, 48, 50, 32, 49, 10, 114, 101, 116, 117, 114, 110, 32, 52, 32, 50, 10, 69, 78, 68, 32] : List UInt8)) = false := bne_eq_false_iff_eq.mpr c18
             clear c18
             by_cases c19 : t191 = 0
             ·
              rw [if_pos c19] at H
              have c19b0 : (t191 == 0) = true := beq_iff_eq.mpr c19
              have c19b1 : (t191 != 0) = false := bne_eq_false_iff_eq.mpr c19
              clear c19
              by_cases c20 : (t188.length : Int) = 1
              ·
               rw [if_pos c20] at H
               have c20b0 : ((t188.length : Int) == 1) = true := beq_iff_eq.mpr c20
               have c20b1 : ((t188.length : Int) != 1) = false := bne_eq_false_iff_eq.mpr c20
               clear c20
               by_cases c21 : 0 < (t188.length : Int)
               ·
                rw [if_pos c21] at H
                have c21b0 : decide (0 < (t188.length : Int)) = true := decide_eq_true c21
                have c21b1 : decide (0 < t188.length) = true := decide_eq_true (by omega)
                clear c21
                by_cases c22 : 1 < (t172.length : Int)
                ·
                 rw [if_pos c22] at H
                 have c22b0 : decide (1 < (t172.length : Int)) = true := decide_eq_true c22
                 have c22b1 : decide (1 < t172.length) = true := decide_eq_true (by omega)
                 clear c22
                 by_cases c23 : (((rd_T45 t188 0).f0) == ((rd_T45 t172 1).f0) && (((rd_T45 t188 0).f1) == ((rd_T45 t172 1).f1) && (((rd_T45 t188 0).f2) == ((rd_T45 t172 1).f2) && (((rd_T45 t188 0).f3) == ((rd_T45 t172 1).f3) && (((rd_T45 t188 0).f4) == ((rd_T45 t172 1).f4)))))) = true
                 ·
                  rw [if_pos c23] at H
                  have c23b0 : (((rd_T45 t188 0).f0) == ((rd_T45 t172 1).f0) && (((rd_T45 t188 0).f1) == ((rd_T45 t172 1).f1) && (((rd_T45 t188 0).f2) == ((rd_T45 t172 1).f2) && (((rd_T45 t188 0).f3) == ((rd_T45 t172 1).f3) && (((rd_T45 t188 0).f4) == ((rd_T45 t172 1).f4)))))) = true := c23
                  (try (have c23b1 : decide (((rd_T45 t188 0).f0) = ((rd_T45 t172 1).f0) && (((rd_T45 t188 0).f1) == ((rd_T45 t172 1).f1) && (((rd_T45 t188 0).f2) == ((rd_T45 t172 1).f2) && (((rd_T45 t188 0).f3) == ((rd_T45 t172 1).f3) && (((rd_T45 t188 0).f4) == ((rd_T45 t172 1).f4)))))) = true := by simpa using c23))
                  (try (have c23b2 : (((rd_T45 t188 0).f0) == ((rd_T45 t172 1).f0) && (((rd_T45 t188 0).f1) == ((rd_T45 t172 1).f1) && (((rd_T45 t188 0).f2) == ((rd_T45 t172 1).f2) && (((rd_T45 t188 0).f3) == ((rd_T45 t172 1).f3) && (((rd_T45 t188 0).f4) == ((rd_T45 t172 1).f4)))))) = true := by simpa using c23))
                  clear c23
                  by_cases c24 : t193 = 0
                  ·
                   rw [if_pos c24] at H
                   have c24b0 : (t193 == 0) = true := beq_iff_eq.mpr c24
                   have c24b1 : (t193 != 0) = false := bne_eq_false_iff_eq.mpr c24
                   clear c24
                   obtain rfl := Option.some.inj H
                   go_enter Tryd.func11, Tryd.ntmps11
                   go_wp2_with (first | (go_at_call 17; (with_reducible refine (annuitantlaw36_two.calls  t170 t171 t172 t175 t176 t177 _ A1.out).mono ?_); rintro e w25 ⟨v173, v178, rfl, ho0, ho1, hb⟩; have n0_ := Aside0.mk (Kd.R_lower ho0 (below_size (by repeat (first | (with_reducible first | exact HB.out | apply below_alloc | apply pw_below_drewN | apply below_drew1) | exact HB.out)))); have n1_ := Aside0.mk (Kd.R_lower ho1 (below_size (by repeat (first | (with_reducible first | exact HB.out | apply below_alloc | apply pw_below_drewN | apply below_drew1) | exact HB.out)))); have n2_ := Aside0.mk (below_step (by repeat (first | (with_reducible first | exact HB.out | apply below_alloc | apply pw_below_drewN | apply below_drew1) | exact HB.out)) hb); clear HB; have HO174 := n0_; have HO179 := n1_; have HB := n2_; clear n0_ n1_ n2_; (try clear hb); (try clear hb2); (try clear hk); (try clear hi); (try clear ho0); (try clear ho1)) | ((with_reducible refine gate_dst (N := 1) rfl ?_); (try (refine gate_guard (by rfl) ?_; dsimp only)); refine box_event ?hg (N := 1) ?hd (cs := #[.int .i64 0, .int .i64 0, .slice none 0 0]) (t := 24) ?hr ?_; (case hd => rfl); (case hg => rfl); (case hr => first | (go_simp; done) | (go_simp; rfl)); intro gb180 hg w26 hbox hb; have n0_ := Aside0.mk (Kd.R_below (by (with_reducible repeat (first | apply Kd.R_alloc | apply Kd.R_drewN | apply Kd.R_drew)); exact HO174.out) hb); have n1_ := Aside0.mk (Kd.R_below (by (with_reducible repeat (first | apply Kd.R_alloc | apply Kd.R_drewN | apply Kd.R_drew)); exact HO179.out) hb); have n2_ := Aside0.mk (below_step (by repeat (first | (with_reducible first | exact HB.out | apply below_alloc | apply pw_below_drewN | apply below_drew1) | exact HB.out)) hb); have n3_ := Aside0.mk (hbox); have n4_ := Aside0.mk ((by rw [hg]; exact (below_size (by repeat (first | (with_reducible first | exact HB.out | apply below_alloc | apply pw_below_drewN | apply below_drew1) | exact HB.out))) : w.heap.size ≤ gb180)); have n5_ := Aside0.mk ((by rw [hg]; exact (below_size (by repeat (first | (with_reducible first | exact HB.out | apply below_alloc | apply pw_below_drewN | apply below_drew1) | exact HB.out))) : w.heap.size ≤ gb180)); clear HO174; clear HO179; clear HB; have HO174 := n0_; have HO179 := n1_; have HB := n2_; have BK180 := n3_; have GW180 := n4_; have GE180 := n5_; clear n0_ n1_ n2_ n3_ n4_ n5_; clear hb hbox hg) | ((with_reducible refine gate_dst (N := 2) rfl ?_); (try (refine gate_guard (by rfl) ?_; dsimp only)); refine box_event ?hg (N := 2) ?hd (cs := #[.int .i64 0, .int .i64 0, .slice none 0 0]) (t := 27) ?hr ?_; (case hd => rfl); (case hg => rfl); (case hr => first | (go_simp; done) | (go_simp; rfl)); intro gb181 hg w27 hbox hb; have n0_ := Aside0.mk (Kd.R_below (by (with_reducible repeat (first | apply Kd.R_alloc | apply Kd.R_drewN | apply Kd.R_drew)); exact HO174.out) hb); have n1_ := Aside0.mk (Kd.R_below (by (with_reducible repeat (first | apply Kd.R_alloc | apply Kd.R_drewN | apply Kd.R_drew)); exact HO179.out) hb); have n2_ := Aside0.mk (blk_below (g := gb180) (o := .cells #[.int .i64 0, .int .i64 0, .slice none 0 0] 24 (0, 0)) (by (with_reducible repeat (first | refine blk_drewN ?_ _ | refine blk_drew ?_ | refine blk_alloc ?_ _)); exact BK180.out) hb); have n3_ := Aside0.mk (below_step (by repeat (first | (with_reducible first | exact HB.out | apply below_alloc | apply pw_below_drewN | apply below_drew1 | refine below_set ?_ GE180.out) | exact HB.out)) hb); have n4_ := Aside0.mk (hbox); have n5_ := Aside0.mk ((by rw [hg]; exact (below_size (by repeat (first | (with_reducible first | exact HB.out | apply below_alloc | apply pw_below_drewN | apply below_drew1 | refine below_set ?_ GE180.out) | exact HB.out))) : w.heap.size ≤ gb181)); have n6_ := Aside0.mk ((by rw [hg]; exact (below_size (by repeat (first | (with_reducible first | exact HB.out | apply below_alloc | apply pw_below_drewN | apply below_drew1 | refine below_set ?_ GE180.out) | exact HB.out))) : w.heap.size ≤ gb181)); have n7_ := Aside0.mk ((by rw [hg]; exact Nat.ne_of_lt (blk_lt (g := gb180) (o := .cells #[.int .i64 0, .int .i64 0, .slice none 0 0] 24 (0, 0)) (by (with_reducible repeat (first | refine blk_drewN ?_ _ | refine blk_drew ?_ | refine blk_alloc ?_ _)); exact BK180.out)) : gb180 ≠ gb181)); have n8_ := Aside0.mk ((by rw [hg]; exact Nat.ne_of_gt (blk_lt (g := gb180) (o := .cells #[.int .i64 0, .int .i64 0, .slice none 0 0] 24 (0, 0)) (by (with_reducible repeat (first | refine blk_drewN ?_ _ | refine blk_drew ?_ | refine blk_alloc ?_ _)); exact BK180.out)) : gb181 ≠ gb180)); clear HO174; clear HO179; clear BK180; clear HB; have HO174 := n0_; have HO179 := n1_; have BK180 := n2_; have HB := n3_; have BK181 := n4_; have GW181 := n5_; have GE181 := n6_; have NB180_181 := n7_; have NB181_180 := n8_; clear n0_ n1_ n2_ n3_ n4_ n5_ n6_ n7_ n8_; clear hb hbox hg; have hnb28 := NB180_181.out; have hnc28 := NB181_180.out; have hcz29_0 : w27.cell? ⟨gb180, 0, none⟩ = some (.int .i64 0) := (blk_cell BK180.out 0).trans rfl; have hcz29_1 : w27.cell? ⟨gb180, 1, none⟩ = some (.int .i64 0) := (blk_cell BK180.out 1).trans rfl; have hcz29_2 : w27.cell? ⟨gb180, 2, none⟩ = some (.slice none 0 0) := (blk_cell BK180.out 2).trans rfl; have hfz29_0 := blk_frozen BK180.out 0; have hfz29_1 := blk_frozen BK180.out 1; have hfz29_2 := blk_frozen BK180.out 2; obtain ⟨Ao30, co30, eo30⟩ := Kd.R_slice HO174.out; subst eo30; have hcz31_0 : w27.cell? ⟨gb181, 0, none⟩ = some (.int .i64 0) := (blk_cell BK181.out 0).trans rfl; have hcz31_1 : w27.cell? ⟨gb181, 1, none⟩ = some (.int .i64 0) := (blk_cell BK181.out 1).trans rfl; have hcz31_2 : w27.cell? ⟨gb181, 2, none⟩ = some (.slice none 0 0) := (blk_cell BK181.out 2).trans rfl; have hfz31_0 := blk_frozen BK181.out 0; have hfz31_1 := blk_frozen BK181.out 1; have hfz31_2 := blk_frozen BK181.out 2; obtain ⟨Ao32, co32, eo32⟩ := Kd.R_slice HO179.out; subst eo32) | (go_at_call 18; (with_reducible refine (bank_Total.calls k t170 t171 _ _ t172 t182 t183 _ ?side1 ?side2 A2.out).mono ?_); (case side1 => refine (Kd.R_reads' (e := 45) (base := w.heap.size) (ok := fun k_ => True) (n := t172.length) (c := co30) ?_).2.2; exact (by (with_reducible repeat (first | apply Kd.R_alloc | apply Kd.R_drewN | apply Kd.R_drew)); exact (Kd.R_mono (Kd.R_mono (Kd.R_far (p := ⟨gb181, 2, none⟩) (Kd.R_far (p := ⟨gb181, 1, none⟩) (Kd.R_far (p := ⟨gb181, 0, none⟩) (Kd.R_far (p := ⟨gb180, 2, none⟩) (Kd.R_far (p := ⟨gb180, 1, none⟩) (Kd.R_far (p := ⟨gb180, 0, none⟩) (Kd.R_types (Kd.R_types HO174.out BK180.out (by decide)) BK181.out (by decide)) (fun _ hk => hk.1.2) (.int .i64 t170)) (fun _ hk => hk.1.2) (.int .i64 t171)) (fun _ hk => hk.1.2) (.slice Ao30 t172.length co30)) (fun _ hk => hk.2) (.int .i64 t175)) (fun _ hk => hk.2) (.int .i64 t176)) (fun _ hk => hk.2) (.slice Ao32 t177.length co32)) (fun _ h_ => h_.1)) (fun _ h_ => h_.1)))); (case side2 => exact (Kd.R_reads' HO174.out).2.1); rintro e w33 ⟨rfl, hb⟩; have n0_ := Aside0.mk (Kd.R_below (by (with_reducible repeat (first | apply Kd.R_alloc | apply Kd.R_drewN | apply Kd.R_drew)); exact (Kd.R_mono (Kd.R_mono (Kd.R_far (p := ⟨gb181, 2, none⟩) (Kd.R_far (p := ⟨gb181, 1, none⟩) (Kd.R_far (p := ⟨gb181, 0, none⟩) (Kd.R_far (p := ⟨gb180, 2, none⟩) (Kd.R_far (p := ⟨gb180, 1, none⟩) (Kd.R_far (p := ⟨gb180, 0, none⟩) (Kd.R_types (Kd.R_types HO174.out BK180.out (by decide)) BK181.out (by decide)) (fun _ hk => hk.1.2) (.int .i64 t170)) (fun _ hk => hk.1.2) (.int .i64 t171)) (fun _ hk => hk.1.2) (.slice Ao30 t172.length co30)) (fun _ hk => hk.2) (.int .i64 t175)) (fun _ hk => hk.2) (.int .i64 t176)) (fun _ hk => hk.2) (.slice Ao32 t177.length co32)) (fun _ h_ => h_.1)) (fun _ h_ => h_.1))) hb); have n1_ := Aside0.mk (Kd.R_below (by (with_reducible repeat (first | apply Kd.R_alloc | apply Kd.R_drewN | apply Kd.R_drew)); exact (Kd.R_mono (Kd.R_mono (Kd.R_far (p := ⟨gb181, 2, none⟩) (Kd.R_far (p := ⟨gb181, 1, none⟩) (Kd.R_far (p := ⟨gb181, 0, none⟩) (Kd.R_far (p := ⟨gb180, 2, none⟩) (Kd.R_far (p := ⟨gb180, 1, none⟩) (Kd.R_far (p := ⟨gb180, 0, none⟩) (Kd.R_types (Kd.R_types HO179.out BK180.out (by decide)) BK181.out (by decide)) (fun _ hk => hk.1.2) (.int .i64 t170)) (fun _ hk => hk.1.2) (.int .i64 t171)) (fun _ hk => hk.1.2) (.slice Ao30 t172.length co30)) (fun _ hk => hk.2) (.int .i64 t175)) (fun _ hk => hk.2) (.int .i64 t176)) (fun _ hk => hk.2) (.slice Ao32 t177.length co32)) (fun _ h_ => h_.1)) (fun _ h_ => h_.1))) hb); have n2_ := Aside0.mk (blk_below (g := gb180) (o := .cells #[.int .i64 t170, .int .i64 t171, .slice Ao30 t172.length co30] 24 (0, 0)) (by (with_reducible repeat (first | refine blk_drewN ?_ _ | refine blk_drew ?_ | refine blk_alloc ?_ _ | refine blk_far ?_ NB180_181.out _)); refine blk_put (cs := #[.int .i64 t170, .int .i64 t171, .slice none 0 0]) ?_ 2 _ rfl; (with_reducible repeat (first | refine blk_drewN ?_ _ | refine blk_drew ?_ | refine blk_alloc ?_ _)); refine blk_put (cs := #[.int .i64 t170, .int .i64 0, .slice none 0 0]) ?_ 1 _ rfl; (with_reducible repeat (first | refine blk_drewN ?_ _ | refine blk_drew ?_ | refine blk_alloc ?_ _)); refine blk_put (cs := #[.int .i64 0, .int .i64 0, .slice none 0 0]) ?_ 0 _ rfl; (with_reducible repeat (first | refine blk_drewN ?_ _ | refine blk_drew ?_ | refine blk_alloc ?_ _)); exact BK180.out) hb); have n3_ := Aside0.mk (blk_below (g := gb181) (o := .cells #[.int .i64 t175, .int .i64 t176, .slice Ao32 t177.length co32] 27 (0, 0)) (by (with_reducible repeat (first | refine blk_drewN ?_ _ | refine blk_drew ?_ | refine blk_alloc ?_ _)); refine blk_put (cs := #[.int .i64 t175, .int .i64 t176, .slice none 0 0]) ?_ 2 _ rfl; (with_reducible repeat (first | refine blk_drewN ?_ _ | refine blk_drew ?_ | refine blk_alloc ?_ _)); refine blk_put (cs := #[.int .i64 t175, .int .i64 0, .slice none 0 0]) ?_ 1 _ rfl; (with_reducible repeat (first | refine blk_drewN ?_ _ | refine blk_drew ?_ | refine blk_alloc ?_ _)); refine blk_put (cs := #[.int .i64 0, .int .i64 0, .slice none 0 0]) ?_ 0 _ rfl; (with_reducible repeat (first | refine blk_drewN ?_ _ | refine blk_drew ?_ | refine blk_alloc ?_ _ | refine blk_far ?_ NB181_180.out _)); exact BK181.out) hb); have n4_ := Aside0.mk (below_step (by repeat (first | (with_reducible first | exact HB.out | apply below_alloc | apply pw_below_drewN | apply below_drew1 | refine below_set ?_ GE180.out | refine below_set ?_ GE181.out) | exact HB.out)) hb); clear HO174; clear HO179; clear BK180; clear BK181; clear HB; have HO174 := n0_; have HO179 := n1_; have BK180 := n2_; have BK181 := n3_; have HB := n4_; clear n0_ n1_ n2_ n3_ n4_; (try clear hb); (try clear hb2); (try clear hk); (try clear hi); have hcz34_0 : w33.cell? ⟨gb180, 0, none⟩ = some (.int .i64 t170) := (blk_cell BK180.out 0).trans rfl; have hcz34_1 : w33.cell? ⟨gb180, 1, none⟩ = some (.int .i64 t171) := (blk_cell BK180.out 1).trans rfl; have hcz34_2 : w33.cell? ⟨gb180, 2, none⟩ = some (.slice Ao30 t172.length co30) := (blk_cell BK180.out 2).trans rfl; have hfz34_0 := blk_frozen BK180.out 0; have hfz34_1 := blk_frozen BK180.out 1; have hfz34_2 := blk_frozen BK180.out 2) | (go_at_call 19; (with_reducible refine (bank_Write.calls k t170 t171 _ _ t172 t184 t185 _ ?side1 ?side2 ?side3 A3.out).mono ?_); (case side1 => repeat (first | exact (Kd.R_reads' HO174.out).2.2 | (with_reducible refine Kd.C_alloc ?_ _) | (with_reducible refine Kd.C_drewN ?_ _) | (with_reducible refine Kd.C_drew ?_))); (case side2 => exact (Kd.R_reads' HO174.out).2.1); (case side3 => exact GG.below HG.out (by repeat (first | (with_reducible first | exact HB.out | apply below_alloc | apply pw_below_drewN | apply below_drew1 | refine below_set ?_ GE180.out | refine below_set ?_ GE181.out) | exact HB.out))); rintro e w35 ⟨rfl, hb⟩; have n0_ := Aside0.mk (Kd.R_below (by (with_reducible repeat (first | apply Kd.R_alloc | apply Kd.R_drewN | apply Kd.R_drew)); exact HO174.out) hb); have n1_ := Aside0.mk (Kd.R_below (by (with_reducible repeat (first | apply Kd.R_alloc | apply Kd.R_drewN | apply Kd.R_drew)); exact HO179.out) hb); have n2_ := Aside0.mk (blk_below (g := gb180) (o := .cells #[.int .i64 t170, .int .i64 t171, .slice Ao30 t172.length co30] 24 (0, 0)) (by (with_reducible repeat (first | refine blk_drewN ?_ _ | refine blk_drew ?_ | refine blk_alloc ?_ _)); exact BK180.out) hb); have n3_ := Aside0.mk (blk_below (g := gb181) (o := .cells #[.int .i64 t175, .int .i64 t176, .slice Ao32 t177.length co32] 27 (0, 0)) (by (with_reducible repeat (first | refine blk_drewN ?_ _ | refine blk_drew ?_ | refine blk_alloc ?_ _)); exact BK181.out) hb); have n4_ := Aside0.mk (below_step (by repeat (first | (with_reducible first | exact HB.out | apply below_alloc | apply pw_below_drewN | apply below_drew1 | refine below_set ?_ GE180.out | refine below_set ?_ GE181.out) | exact HB.out)) hb); clear HO174; clear HO179; clear BK180; clear BK181; clear HB; have HO174 := n0_; have HO179 := n1_; have BK180 := n2_; have BK181 := n3_; have HB := n4_; clear n0_ n1_ n2_ n3_ n4_; (try clear hb); (try clear hb2); (try clear hk); (try clear hi); have hcz36_0 : w35.cell? ⟨gb181, 0, none⟩ = some (.int .i64 t175) := (blk_cell BK181.out 0).trans rfl; have hcz36_1 : w35.cell? ⟨gb181, 1, none⟩ = some (.int .i64 t176) := (blk_cell BK181.out 1).trans rfl; have hcz36_2 : w35.cell? ⟨gb181, 2, none⟩ = some (.slice Ao32 t177.length co32) := (blk_cell BK181.out 2).trans rfl; have hfz36_0 := blk_frozen BK181.out 0; have hfz36_1 := blk_frozen BK181.out 1; have hfz36_2 := blk_frozen BK181.out 2) | (go_at_call 20; (with_reducible refine (bank_WriteAnswer.calls k t175 t176 _ _ t177 t186 t187 _ ?side1 ?side2 ?side3 A4.out).mono ?_); (case side1 => repeat (first | exact (Kd.R_reads' HO179.out).2.2 | (with_reducible refine Kd.C_alloc ?_ _) | (with_reducible refine Kd.C_drewN ?_ _) | (with_reducible refine Kd.C_drew ?_))); (case side2 => exact (Kd.R_reads' HO179.out).2.1); (case side3 => exact GG.below HG.out (by repeat (first | (with_reducible first | exact HB.out | apply below_alloc | apply pw_below_drewN | apply below_drew1 | refine below_set ?_ GE180.out | refine below_set ?_ GE181.out) | exact HB.out))); rintro e w37 ⟨rfl, hb⟩; have n0_ := Aside0.mk (Kd.R_below (by (with_reducible repeat (first | apply Kd.R_alloc | apply Kd.R_drewN | apply Kd.R_drew)); exact HO174.out) hb); have n1_ := Aside0.mk (Kd.R_below (by (with_reducible repeat (first | apply Kd.R_alloc | apply Kd.R_drewN | apply Kd.R_drew)); exact HO179.out) hb); have n2_ := Aside0.mk (blk_below (g := gb180) (o := .cells #[.int .i64 t170, .int .i64 t171, .slice Ao30 t172.length co30] 24 (0, 0)) (by (with_reducible repeat (first | refine blk_drewN ?_ _ | refine blk_drew ?_ | refine blk_alloc ?_ _)); exact BK180.out) hb); have n3_ := Aside0.mk (blk_below (g := gb181) (o := .cells #[.int .i64 t175, .int .i64 t176, .slice Ao32 t177.length co32] 27 (0, 0)) (by (with_reducible repeat (first | refine blk_drewN ?_ _ | refine blk_drew ?_ | refine blk_alloc ?_ _)); exact BK181.out) hb); have n4_ := Aside0.mk (below_step (by repeat (first | (with_reducible first | exact HB.out | apply below_alloc | apply pw_below_drewN | apply below_drew1 | refine below_set ?_ GE180.out | refine below_set ?_ GE181.out) | exact HB.out)) hb); clear HO174; clear HO179; clear BK180; clear BK181; clear HB; have HO174 := n0_; have HO179 := n1_; have BK180 := n2_; have BK181 := n3_; have HB := n4_; clear n0_ n1_ n2_ n3_ n4_; (try clear hb); (try clear hb2); (try clear hk); (try clear hi); have hcz38_0 : w37.cell? ⟨gb180, 0, none⟩ = some (.int .i64 t170) := (blk_cell BK180.out 0).trans rfl; have hcz38_1 : w37.cell? ⟨gb180, 1, none⟩ = some (.int .i64 t171) := (blk_cell BK180.out 1).trans rfl; have hcz38_2 : w37.cell? ⟨gb180, 2, none⟩ = some (.slice Ao30 t172.length co30) := (blk_cell BK180.out 2).trans rfl; have hfz38_0 := blk_frozen BK180.out 0; have hfz38_1 := blk_frozen BK180.out 1; have hfz38_2 := blk_frozen BK180.out 2; have hcz39_0 : w37.cell? ⟨gb181, 0, none⟩ = some (.int .i64 t175) := (blk_cell BK181.out 0).trans rfl; have hcz39_1 : w37.cell? ⟨gb181, 1, none⟩ = some (.int .i64 t176) := (blk_cell BK181.out 1).trans rfl; have hcz39_2 : w37.cell? ⟨gb181, 2, none⟩ = some (.slice Ao32 t177.length co32) := (blk_cell BK181.out 2).trans rfl; have hfz39_0 := blk_frozen BK181.out 0; have hfz39_1 := blk_frozen BK181.out 1; have hfz39_2 := blk_frozen BK181.out 2) | (go_at_call 13; (with_reducible refine (bank_Match.calls k t170 t171 _ _ t172 t175 t176 _ _ t177 t188 t191 _ ?side1 ?side2 ?side3 ?side4 A5.out).mono ?_); (case side1 => repeat (first | exact (Kd.R_reads' HO174.out).2.2 | (with_reducible refine Kd.C_alloc ?_ _) | (with_reducible refine Kd.C_drewN ?_ _) | (with_reducible refine Kd.C_drew ?_))); (case side2 => exact (Kd.R_reads' HO174.out).2.1); (case side3 => repeat (first | exact (Kd.R_reads' HO179.out).2.2 | (with_reducible refine Kd.C_alloc ?_ _) | (with_reducible refine Kd.C_drewN ?_ _) | (with_reducible refine Kd.C_drew ?_))); (case side4 => exact (Kd.R_reads' HO179.out).2.1); rintro e w40 ⟨v189, rfl, ho0, hb⟩; have n0_ := Aside0.mk (Kd.R_elder' (by (with_reducible repeat (first | apply Kd.R_alloc | apply Kd.R_drewN | apply Kd.R_drew)); exact HO174.out) (Kd.R_base ho0) hb); have n1_ := Aside0.mk (Kd.R_below (by (with_reducible repeat (first | apply Kd.R_alloc | apply Kd.R_drewN | apply Kd.R_drew)); exact HO179.out) hb); have n2_ := Aside0.mk (Kd.R_lower (Kd.R_new' ho0 (Kd.R_lt (by (with_reducible repeat (first | apply Kd.R_alloc | apply Kd.R_drewN | apply Kd.R_drew)); exact HO174.out))) (below_size (by repeat (first | (with_reducible first | exact HB.out | apply below_alloc | apply pw_below_drewN | apply below_drew1 | refine below_set ?_ GE180.out | refine below_set ?_ GE181.out) | exact HB.out)))); have n3_ := Aside0.mk (blk_below (g := gb180) (o := .cells #[.int .i64 t170, .int .i64 t171, .slice Ao30 t172.length co30] 24 (0, 0)) (by (with_reducible repeat (first | refine blk_drewN ?_ _ | refine blk_drew ?_ | refine blk_alloc ?_ _)); exact BK180.out) hb); have n4_ := Aside0.mk (blk_below (g := gb181) (o := .cells #[.int .i64 t175, .int .i64 t176, .slice Ao32 t177.length co32] 27 (0, 0)) (by (with_reducible repeat (first | refine blk_drewN ?_ _ | refine blk_drew ?_ | refine blk_alloc ?_ _)); exact BK181.out) hb); have n5_ := Aside0.mk (below_step (by repeat (first | (with_reducible first | exact HB.out | apply below_alloc | apply pw_below_drewN | apply below_drew1 | refine below_set ?_ GE180.out | refine below_set ?_ GE181.out) | exact HB.out)) hb); clear HO174; clear HO179; clear BK180; clear BK181; clear HB; have HO174 := n0_; have HO179 := n1_; have HO190 := n2_; have BK180 := n3_; have BK181 := n4_; have HB := n5_; clear n0_ n1_ n2_ n3_ n4_ n5_; (try clear hb); (try clear hb2); (try clear hk); (try clear hi); (try clear ho0)) | (go_at_call 19; (refine (bank_Write.calls k 1 0 _ _ ([] : List (S45)) t192 t193 _ ?side1 ?side2 ?side3 A6.out).mono ?_); (case side1 => exact Kd.C_nil _ _); (case side2 => exact Nat.le_refl _); (case side3 => exact GG.below HG.out (by repeat (first | (with_reducible first | exact HB.out | apply below_alloc | apply pw_below_drewN | apply below_drew1 | refine below_set ?_ GE180.out | refine below_set ?_ GE181.out) | exact HB.out))); rintro e w41 ⟨rfl, hb⟩; have n0_ := Aside0.mk (Kd.R_below (by (with_reducible repeat (first | apply Kd.R_alloc | apply Kd.R_drewN | apply Kd.R_drew)); exact HO174.out) hb); have n1_ := Aside0.mk (Kd.R_below (by (with_reducible repeat (first | apply Kd.R_alloc | apply Kd.R_drewN | apply Kd.R_drew)); exact HO179.out) hb); have n2_ := Aside0.mk (Kd.R_below (by (with_reducible repeat (first | apply Kd.R_alloc | apply Kd.R_drewN | apply Kd.R_drew)); exact HO190.out) hb); have n3_ := Aside0.mk (blk_below (g := gb180) (o := .cells #[.int .i64 t170, .int .i64 t171, .slice Ao30 t172.length co30] 24 (0, 0)) (by (with_reducible repeat (first | refine blk_drewN ?_ _ | refine blk_drew ?_ | refine blk_alloc ?_ _)); exact BK180.out) hb); have n4_ := Aside0.mk (blk_below (g := gb181) (o := .cells #[.int .i64 t175, .int .i64 t176, .slice Ao32 t177.length co32] 27 (0, 0)) (by (with_reducible repeat (first | refine blk_drewN ?_ _ | refine blk_drew ?_ | refine blk_alloc ?_ _)); exact BK181.out) hb); have n5_ := Aside0.mk (below_step (by repeat (first | (with_reducible first | exact HB.out | apply below_alloc | apply pw_below_drewN | apply below_drew1 | refine below_set ?_ GE180.out | refine below_set ?_ GE181.out) | exact HB.out)) hb); clear HO174; clear HO179; clear HO190; clear BK180; clear BK181; clear HB; have HO174 := n0_; have HO179 := n1_; have HO190 := n2_; have BK180 := n3_; have BK181 := n4_; have HB := n5_; clear n0_ n1_ n2_ n3_ n4_ n5_; (try clear hb); (try clear hb2); (try clear hk); (try clear hi); obtain ⟨Ao42, co42, eo42⟩ := Kd.R_slice HO190.out; subst eo42; have p194 : 0 ≤ (0 : Int) := (by omega); have q194 : 0 < (t188.length : Int) := of_decide_eq_true (by first | (with_reducible assumption) | assumption); obtain ⟨ad194, e194, hx194_0, hx194_1, hx194_2, hx194_3, hx194_4⟩ := at_T45 (Kd.R_reads' HO190.out).2.2 0 p194 q194; cases e194; have qi194 : (0 < t188.length) = True := eq_true (by omega); (try rw [show ((0 : Int)).toNat = 0 from rfl] at hx194_0); (try rw [show 0 * 5 = 0 from rfl] at hx194_0); (try rw [Addr.add_zero'] at hx194_0); (try rw [show ((0 : Int)).toNat = 0 from rfl] at hx194_1); (try rw [show 0 * 5 = 0 from rfl] at hx194_1); (try rw [Addr.add_zero'] at hx194_1); (try rw [show ((0 : Int)).toNat = 0 from rfl] at hx194_2); (try rw [show 0 * 5 = 0 from rfl] at hx194_2); (try rw [Addr.add_zero'] at hx194_2); (try rw [show ((0 : Int)).toNat = 0 from rfl] at hx194_3); (try rw [show 0 * 5 = 0 from rfl] at hx194_3); (try rw [Addr.add_zero'] at hx194_3); (try rw [show ((0 : Int)).toNat = 0 from rfl] at hx194_4); (try rw [show 0 * 5 = 0 from rfl] at hx194_4); (try rw [Addr.add_zero'] at hx194_4); replace p194 := eq_true p194; replace q194 := eq_true q194; have hcz43_0 : w41.cell? ⟨gb180, 0, none⟩ = some (.int .i64 t170) := (blk_cell BK180.out 0).trans rfl; have hcz43_1 : w41.cell? ⟨gb180, 1, none⟩ = some (.int .i64 t171) := (blk_cell BK180.out 1).trans rfl; have hcz43_2 : w41.cell? ⟨gb180, 2, none⟩ = some (.slice Ao30 t172.length co30) := (blk_cell BK180.out 2).trans rfl; have hfz43_0 := blk_frozen BK180.out 0; have hfz43_1 := blk_frozen BK180.out 1; have hfz43_2 := blk_frozen BK180.out 2; have p195 : 0 ≤ (1 : Int) := (by omega); have q195 : 1 < (t172.length : Int) := of_decide_eq_true (by first | (with_reducible assumption) | assumption); obtain ⟨ad195, e195, hx195_0, hx195_1, hx195_2, hx195_3, hx195_4⟩ := at_T45 (Kd.R_reads' HO174.out).2.2 1 p195 q195; cases e195; (try simp only [show (1 : Int).toNat = 1 from rfl, Nat.reduceMul, Nat.reduceEqDiff, Go.Addr.add, ↓reduceIte] at hx195_0); (try simp only [show (1 : Int).toNat = 1 from rfl, Nat.reduceMul, Nat.reduceEqDiff, Go.Addr.add, ↓reduceIte] at hx195_1); (try simp only [show (1 : Int).toNat = 1 from rfl, Nat.reduceMul, Nat.reduceEqDiff, Go.Addr.add, ↓reduceIte] at hx195_2); (try simp only [show (1 : Int).toNat = 1 from rfl, Nat.reduceMul, Nat.reduceEqDiff, Go.Addr.add, ↓reduceIte] at hx195_3); (try simp only [show (1 : Int).toNat = 1 from rfl, Nat.reduceMul, Nat.reduceEqDiff, Go.Addr.add, ↓reduceIte] at hx195_4); have qi195 : (1 < t172.length) = True := eq_true (by omega); (try rw [show ((1 : Int)).toNat = 1 from rfl] at hx195_0); (try rw [show 1 * 5 = 5 from rfl] at hx195_0); (try rw [show ((1 : Int)).toNat = 1 from rfl] at hx195_1); (try rw [show 1 * 5 = 5 from rfl] at hx195_1); (try rw [show ((1 : Int)).toNat = 1 from rfl] at hx195_2); (try rw [show 1 * 5 = 5 from rfl] at hx195_2); (try rw [show ((1 : Int)).toNat = 1 from rfl] at hx195_3); (try rw [show 1 * 5 = 5 from rfl] at hx195_3); (try rw [show ((1 : Int)).toNat = 1 from rfl] at hx195_4); (try rw [show 1 * 5 = 5 from rfl] at hx195_4); replace p195 := eq_true p195; replace q195 := eq_true q195))
                   repeat (go_quiet (skip); try go_wp2)
                   go_ret
                   exact ⟨by first | rfl | (simp [errW_none, errW_some] <;> rfl) | (simp [*, errW_none, errW_some] <;> rfl), by repeat (first | (with_reducible first | exact HB.out | apply below_alloc | apply pw_below_drewN | apply below_drew1 | refine below_set ?_ GE180.out | refine below_set ?_ GE181.out) | exact HB.out)⟩
                  ·
                   rw [if_neg c24] at H
                   exact absurd H (by simp)
                 ·
                  rw [if_neg c23] at H
                  exact absurd H (by simp)
                ·
                 rw [if_neg c22] at H
                 exact absurd H (by simp)
               ·
                rw [if_neg c21] at H
                exact absurd H (by simp)
              ·
               rw [if_neg c20] at H
               exact absurd H (by simp)
             ·
              rw [if_neg c19] at H
              exact absurd H (by simp)
            ·
             rw [if_neg c18] at H
             have c18b0 : ((t186.extract 0 28).toList == ([66, 65, 67, 75, 32, 55, 32, 49, 48, 50, 32, 49, 10, 114, 101, 116, 117, 114, 110, 32, 52, 32, 50, 10, 69, 78, 68, 32] : List UInt8)) = false := beq_eq_false_iff_ne.mpr c18
             have c18b1 : ((t186.extract 0 28).toList != ([66, 65, 67, 75, 32, 55, 32, 49, 48, 50, 32, 49, 10, 114, 101, 116, 117, 114, 110, 32, 52, 32, 50, 10, 69, 78, 68, 32] : List UInt8)) = true := bne_iff_ne.mpr c18
             obtain rfl := Option.some.inj H
             go_enter Tryd.func11, Tryd.ntmps11
             go_wp2_with (first | (go_at_call 17; (with_reducible refine (annuitantlaw36_two.calls  t170 t171 t172 t175 t176 t177 _ A1.out).mono ?_); rintro e w44 ⟨v173, v178, rfl, ho0, ho1, hb⟩; have n0_ := Aside0.mk (Kd.R_lower ho0 (below_size (by repeat (first | (with_reducible first | exact HB.out | apply below_alloc | apply pw_below_drewN | apply below_drew1) | exact HB.out)))); have n1_ := Aside0.mk (Kd.R_lower ho1 (below_size (by repeat (first | (with_reducible first | exact HB.out | apply below_alloc | apply pw_below_drewN | apply below_drew1) | exact HB.out)))); have n2_ := Aside0.mk (below_step (by repeat (first | (with_reducible first | exact HB.out | apply below_alloc | apply pw_below_drewN | apply below_drew1) | exact HB.out)) hb); clear HB; have HO174 := n0_; have HO179 := n1_; have HB := n2_; clear n0_ n1_ n2_; (try clear hb); (try clear hb2); (try clear hk); (try clear hi); (try clear ho0); (try clear ho1)) | ((with_reducible refine gate_dst (N := 1) rfl ?_); (try (refine gate_guard (by rfl) ?_; dsimp only)); refine box_event ?hg (N := 1) ?hd (cs := #[.int .i64 0, .int .i64 0, .slice none 0 0]) (t := 24) ?hr ?_; (case hd => rfl); (case hg => rfl); (case hr => first | (go_simp; done) | (go_simp; rfl)); intro gb180 hg w45 hbox hb; have n0_ := Aside0.mk (Kd.R_below (by (with_reducible repeat (first | apply Kd.R_alloc | apply Kd.R_drewN | apply Kd.R_drew)); exact HO174.out) hb); have n1_ := Aside0.mk (Kd.R_below (by (with_reducible repeat (first | apply Kd.R_alloc | apply Kd.R_drewN | apply Kd.R_drew)); exact HO179.out) hb); have n2_ := Aside0.mk (below_step (by repeat (first | (with_reducible first | exact HB.out | apply below_alloc | apply pw_below_drewN | apply below_drew1) | exact HB.out)) hb); have n3_ := Aside0.mk (hbox); have n4_ := Aside0.mk ((by rw [hg]; exact (below_size (by repeat (first | (with_reducible first | exact HB.out | apply below_alloc | apply pw_below_drewN | apply below_drew1) | exact HB.out))) : w.heap.size ≤ gb180)); have n5_ := Aside0.mk ((by rw [hg]; exact (below_size (by repeat (first | (with_reducible first | exact HB.out | apply below_alloc | apply pw_below_drewN | apply below_drew1) | exact HB.out))) : w.heap.size ≤ gb180)); clear HO174; clear HO179; clear HB; have HO174 := n0_; have HO179 := n1_; have HB := n2_; have BK180 := n3_; have GW180 := n4_; have GE180 := n5_; clear n0_ n1_ n2_ n3_ n4_ n5_; clear hb hbox hg) | ((with_reducible refine gate_dst (N := 2) rfl ?_); (try (refine gate_guard (by rfl) ?_; dsimp only)); refine box_event ?hg (N := 2) ?hd (cs := #[.int .i64 0, .int .i64 0, .slice none 0 0]) (t := 27) ?hr ?_; (case hd => rfl); (case hg => rfl); (case hr => first | (go_simp; done) | (go_simp; rfl)); intro gb181 hg w46 hbox hb; have n0_ := Aside0.mk (Kd.R_below (by (with_reducible repeat (first | apply Kd.R_alloc | apply Kd.R_drewN | apply Kd.R_drew)); exact HO174.out) hb); have n1_ := Aside0.mk (Kd.R_below (by (with_reducible repeat (first | apply Kd.R_alloc | apply Kd.R_drewN | apply Kd.R_drew)); exact HO179.out) hb); have n2_ := Aside0.mk (blk_below (g := gb180) (o := .cells #[.int .i64 0, .int .i64 0, .slice none 0 0] 24 (0, 0)) (by (with_reducible repeat (first | refine blk_drewN ?_ _ | refine blk_drew ?_ | refine blk_alloc ?_ _)); exact BK180.out) hb); have n3_ := Aside0.mk (below_step (by repeat (first | (with_reducible first | exact HB.out | apply below_alloc | apply pw_below_drewN | apply below_drew1 | refine below_set ?_ GE180.out) | exact HB.out)) hb); have n4_ := Aside0.mk (hbox); have n5_ := Aside0.mk ((by rw [hg]; exact (below_size (by repeat (first | (with_reducible first | exact HB.out | apply below_alloc | apply pw_below_drewN | apply below_drew1 | refine below_set ?_ GE180.out) | exact HB.out))) : w.heap.size ≤ gb181)); have n6_ := Aside0.mk ((by rw [hg]; exact (below_size (by repeat (first | (with_reducible first | exact HB.out | apply below_alloc | apply pw_below_drewN | apply below_drew1 | refine below_set ?_ GE180.out) | exact HB.out))) : w.heap.size ≤ gb181)); have n7_ := Aside0.mk ((by rw [hg]; exact Nat.ne_of_lt (blk_lt (g := gb180) (o := .cells #[.int .i64 0, .int .i64 0, .slice none 0 0] 24 (0, 0)) (by (with_reducible repeat (first | refine blk_drewN ?_ _ | refine blk_drew ?_ | refine blk_alloc ?_ _)); exact BK180.out)) : gb180 ≠ gb181)); have n8_ := Aside0.mk ((by rw [hg]; exact Nat.ne_of_gt (blk_lt (g := gb180) (o := .cells #[.int .i64 0, .int .i64 0, .slice none 0 0] 24 (0, 0)) (by (with_reducible repeat (first | refine blk_drewN ?_ _ | refine blk_drew ?_ | refine blk_alloc ?_ _)); exact BK180.out)) : gb181 ≠ gb180)); clear HO174; clear HO179; clear BK180; clear HB; have HO174 := n0_; have HO179 := n1_; have BK180 := n2_; have HB := n3_; have BK181 := n4_; have GW181 := n5_; have GE181 := n6_; have NB180_181 := n7_; have NB181_180 := n8_; clear n0_ n1_ n2_ n3_ n4_ n5_ n6_ n7_ n8_; clear hb hbox hg; have hnb47 := NB180_181.out; have hnc47 := NB181_180.out; have hcz48_0 : w46.cell? ⟨gb180, 0, none⟩ = some (.int .i64 0) := (blk_cell BK180.out 0).trans rfl; have hcz48_1 : w46.cell? ⟨gb180, 1, none⟩ = some (.int .i64 0) := (blk_cell BK180.out 1).trans rfl; have hcz48_2 : w46.cell? ⟨gb180, 2, none⟩ = some (.slice none 0 0) := (blk_cell BK180.out 2).trans rfl; have hfz48_0 := blk_frozen BK180.out 0; have hfz48_1 := blk_frozen BK180.out 1; have hfz48_2 := blk_frozen BK180.out 2; obtain ⟨Ao49, co49, eo49⟩ := Kd.R_slice HO174.out; subst eo49; have hcz50_0 : w46.cell? ⟨gb181, 0, none⟩ = some (.int .i64 0) := (blk_cell BK181.out 0).trans rfl; have hcz50_1 : w46.cell? ⟨gb181, 1, none⟩ = some (.int .i64 0) := (blk_cell BK181.out 1).trans rfl; have hcz50_2 : w46.cell? ⟨gb181, 2, none⟩ = some (.slice none 0 0) := (blk_cell BK181.out 2).trans rfl; have hfz50_0 := blk_frozen BK181.out 0; have hfz50_1 := blk_frozen BK181.out 1; have hfz50_2 := blk_frozen BK181.out 2; obtain ⟨Ao51, co51, eo51⟩ := Kd.R_slice HO179.out; subst eo51) | (go_at_call 18; (with_reducible refine (bank_Total.calls k t170 t171 _ _ t172 t182 t183 _ ?side1 ?side2 A2.out).mono ?_); (case side1 => refine (Kd.R_reads' (e := 45) (base := w.heap.size) (ok := fun k_ => True) (n := t172.length) (c := co49) ?_).2.2; exact (by (with_reducible repeat (first | apply Kd.R_alloc | apply Kd.R_drewN | apply Kd.R_drew)); exact (Kd.R_mono (Kd.R_mono (Kd.R_far (p := ⟨gb181, 2, none⟩) (Kd.R_far (p := ⟨gb181, 1, none⟩) (Kd.R_far (p := ⟨gb181, 0, none⟩) (Kd.R_far (p := ⟨gb180, 2, none⟩) (Kd.R_far (p := ⟨gb180, 1, none⟩) (Kd.R_far (p := ⟨gb180, 0, none⟩) (Kd.R_types (Kd.R_types HO174.out BK180.out (by decide)) BK181.out (by decide)) (fun _ hk => hk.1.2) (.int .i64 t170)) (fun _ hk => hk.1.2) (.int .i64 t171)) (fun _ hk => hk.1.2) (.slice Ao49 t172.length co49)) (fun _ hk => hk.2) (.int .i64 t175)) (fun _ hk => hk.2) (.int .i64 t176)) (fun _ hk => hk.2) (.slice Ao51 t177.length co51)) (fun _ h_ => h_.1)) (fun _ h_ => h_.1)))); (case side2 => exact (Kd.R_reads' HO174.out).2.1); rintro e w52 ⟨rfl, hb⟩; have n0_ := Aside0.mk (Kd.R_below (by (with_reducible repeat (first | apply Kd.R_alloc | apply Kd.R_drewN | apply Kd.R_drew)); exact (Kd.R_mono (Kd.R_mono (Kd.R_far (p := ⟨gb181, 2, none⟩) (Kd.R_far (p := ⟨gb181, 1, none⟩) (Kd.R_far (p := ⟨gb181, 0, none⟩) (Kd.R_far (p := ⟨gb180, 2, none⟩) (Kd.R_far (p := ⟨gb180, 1, none⟩) (Kd.R_far (p := ⟨gb180, 0, none⟩) (Kd.R_types (Kd.R_types HO174.out BK180.out (by decide)) BK181.out (by decide)) (fun _ hk => hk.1.2) (.int .i64 t170)) (fun _ hk => hk.1.2) (.int .i64 t171)) (fun _ hk => hk.1.2) (.slice Ao49 t172.length co49)) (fun _ hk => hk.2) (.int .i64 t175)) (fun _ hk => hk.2) (.int .i64 t176)) (fun _ hk => hk.2) (.slice Ao51 t177.length co51)) (fun _ h_ => h_.1)) (fun _ h_ => h_.1))) hb); have n1_ := Aside0.mk (Kd.R_below (by (with_reducible repeat (first | apply Kd.R_alloc | apply Kd.R_drewN | apply Kd.R_drew)); exact (Kd.R_mono (Kd.R_mono (Kd.R_far (p := ⟨gb181, 2, none⟩) (Kd.R_far (p := ⟨gb181, 1, none⟩) (Kd.R_far (p := ⟨gb181, 0, none⟩) (Kd.R_far (p := ⟨gb180, 2, none⟩) (Kd.R_far (p := ⟨gb180, 1, none⟩) (Kd.R_far (p := ⟨gb180, 0, none⟩) (Kd.R_types (Kd.R_types HO179.out BK180.out (by decide)) BK181.out (by decide)) (fun _ hk => hk.1.2) (.int .i64 t170)) (fun _ hk => hk.1.2) (.int .i64 t171)) (fun _ hk => hk.1.2) (.slice Ao49 t172.length co49)) (fun _ hk => hk.2) (.int .i64 t175)) (fun _ hk => hk.2) (.int .i64 t176)) (fun _ hk => hk.2) (.slice Ao51 t177.length co51)) (fun _ h_ => h_.1)) (fun _ h_ => h_.1))) hb); have n2_ := Aside0.mk (blk_below (g := gb180) (o := .cells #[.int .i64 t170, .int .i64 t171, .slice Ao49 t172.length co49] 24 (0, 0)) (by (with_reducible repeat (first | refine blk_drewN ?_ _ | refine blk_drew ?_ | refine blk_alloc ?_ _ | refine blk_far ?_ NB180_181.out _)); refine blk_put (cs := #[.int .i64 t170, .int .i64 t171, .slice none 0 0]) ?_ 2 _ rfl; (with_reducible repeat (first | refine blk_drewN ?_ _ | refine blk_drew ?_ | refine blk_alloc ?_ _)); refine blk_put (cs := #[.int .i64 t170, .int .i64 0, .slice none 0 0]) ?_ 1 _ rfl; (with_reducible repeat (first | refine blk_drewN ?_ _ | refine blk_drew ?_ | refine blk_alloc ?_ _)); refine blk_put (cs := #[.int .i64 0, .int .i64 0, .slice none 0 0]) ?_ 0 _ rfl; (with_reducible repeat (first | refine blk_drewN ?_ _ | refine blk_drew ?_ | refine blk_alloc ?_ _)); exact BK180.out) hb); have n3_ := Aside0.mk (blk_below (g := gb181) (o := .cells #[.int .i64 t175, .int .i64 t176, .slice Ao51 t177.length co51] 27 (0, 0)) (by (with_reducible repeat (first | refine blk_drewN ?_ _ | refine blk_drew ?_ | refine blk_alloc ?_ _)); refine blk_put (cs := #[.int .i64 t175, .int .i64 t176, .slice none 0 0]) ?_ 2 _ rfl; (with_reducible repeat (first | refine blk_drewN ?_ _ | refine blk_drew ?_ | refine blk_alloc ?_ _)); refine blk_put (cs := #[.int .i64 t175, .int .i64 0, .slice none 0 0]) ?_ 1 _ rfl; (with_reducible repeat (first | refine blk_drewN ?_ _ | refine blk_drew ?_ | refine blk_alloc ?_ _)); refine blk_put (cs := #[.int .i64 0, .int .i64 0, .slice none 0 0]) ?_ 0 _ rfl; (with_reducible repeat (first | refine blk_drewN ?_ _ | refine blk_drew ?_ | refine blk_alloc ?_ _ | refine blk_far ?_ NB181_180.out _)); exact BK181.out) hb); have n4_ := Aside0.mk (below_step (by repeat (first | (with_reducible first | exact HB.out | apply below_alloc | apply pw_below_drewN | apply below_drew1 | refine below_set ?_ GE180.out | refine below_set ?_ GE181.out) | exact HB.out)) hb); clear HO174; clear HO179; clear BK180; clear BK181; clear HB; have HO174 := n0_; have HO179 := n1_; have BK180 := n2_; have BK181 := n3_; have HB := n4_; clear n0_ n1_ n2_ n3_ n4_; (try clear hb); (try clear hb2); (try clear hk); (try clear hi); have hcz53_0 : w52.cell? ⟨gb180, 0, none⟩ = some (.int .i64 t170) := (blk_cell BK180.out 0).trans rfl; have hcz53_1 : w52.cell? ⟨gb180, 1, none⟩ = some (.int .i64 t171) := (blk_cell BK180.out 1).trans rfl; have hcz53_2 : w52.cell? ⟨gb180, 2, none⟩ = some (.slice Ao49 t172.length co49) := (blk_cell BK180.out 2).trans rfl; have hfz53_0 := blk_frozen BK180.out 0; have hfz53_1 := blk_frozen BK180.out 1; have hfz53_2 := blk_frozen BK180.out 2) | (go_at_call 19; (with_reducible refine (bank_Write.calls k t170 t171 _ _ t172 t184 t185 _ ?side1 ?side2 ?side3 A3.out).mono ?_); (case side1 => repeat (first | exact (Kd.R_reads' HO174.out).2.2 | (with_reducible refine Kd.C_alloc ?_ _) | (with_reducible refine Kd.C_drewN ?_ _) | (with_reducible refine Kd.C_drew ?_))); (case side2 => exact (Kd.R_reads' HO174.out).2.1); (case side3 => exact GG.below HG.out (by repeat (first | (with_reducible first | exact HB.out | apply below_alloc | apply pw_below_drewN | apply below_drew1 | refine below_set ?_ GE180.out | refine below_set ?_ GE181.out) | exact HB.out))); rintro e w54 ⟨rfl, hb⟩; have n0_ := Aside0.mk (Kd.R_below (by (with_reducible repeat (first | apply Kd.R_alloc | apply Kd.R_drewN | apply Kd.R_drew)); exact HO174.out) hb); have n1_ := Aside0.mk (Kd.R_below (by (with_reducible repeat (first | apply Kd.R_alloc | apply Kd.R_drewN | apply Kd.R_drew)); exact HO179.out) hb); have n2_ := Aside0.mk (blk_below (g := gb180) (o := .cells #[.int .i64 t170, .int .i64 t171, .slice Ao49 t172.length co49] 24 (0, 0)) (by (with_reducible repeat (first | refine blk_drewN ?_ _ | refine blk_drew ?_ | refine blk_alloc ?_ _)); exact BK180.out) hb); have n3_ := Aside0.mk (blk_below (g := gb181) (o := .cells #[.int .i64 t175, .int .i64 t176, .slice Ao51 t177.length co51] 27 (0, 0)) (by (with_reducible repeat (first | refine blk_drewN ?_ _ | refine blk_drew ?_ | refine blk_alloc ?_ _)); exact BK181.out) hb); have n4_ := Aside0.mk (below_step (by repeat (first | (with_reducible first | exact HB.out | apply below_alloc | apply pw_below_drewN | apply below_drew1 | refine below_set ?_ GE180.out | refine below_set ?_ GE181.out) | exact HB.out)) hb); clear HO174; clear HO179; clear BK180; clear BK181; clear HB; have HO174 := n0_; have HO179 := n1_; have BK180 := n2_; have BK181 := n3_; have HB := n4_; clear n0_ n1_ n2_ n3_ n4_; (try clear hb); (try clear hb2); (try clear hk); (try clear hi); have hcz55_0 : w54.cell? ⟨gb181, 0, none⟩ = some (.int .i64 t175) := (blk_cell BK181.out 0).trans rfl; have hcz55_1 : w54.cell? ⟨gb181, 1, none⟩ = some (.int .i64 t176) := (blk_cell BK181.out 1).trans rfl; have hcz55_2 : w54.cell? ⟨gb181, 2, none⟩ = some (.slice Ao51 t177.length co51) := (blk_cell BK181.out 2).trans rfl; have hfz55_0 := blk_frozen BK181.out 0; have hfz55_1 := blk_frozen BK181.out 1; have hfz55_2 := blk_frozen BK181.out 2) | (go_at_call 20; (with_reducible refine (bank_WriteAnswer.calls k t175 t176 _ _ t177 t186 t187 _ ?side1 ?side2 ?side3 A4.out).mono ?_); (case side1 => repeat (first | exact (Kd.R_reads' HO179.out).2.2 | (with_reducible refine Kd.C_alloc ?_ _) | (with_reducible refine Kd.C_drewN ?_ _) | (with_reducible refine Kd.C_drew ?_))); (case side2 => exact (Kd.R_reads' HO179.out).2.1); (case side3 => exact GG.below HG.out (by repeat (first | (with_reducible first | exact HB.out | apply below_alloc | apply pw_below_drewN | apply below_drew1 | refine below_set ?_ GE180.out | refine below_set ?_ GE181.out) | exact HB.out))); rintro e w56 ⟨rfl, hb⟩; have n0_ := Aside0.mk (Kd.R_below (by (with_reducible repeat (first | apply Kd.R_alloc | apply Kd.R_drewN | apply Kd.R_drew)); exact HO174.out) hb); have n1_ := Aside0.mk (Kd.R_below (by (with_reducible repeat (first | apply Kd.R_alloc | apply Kd.R_drewN | apply Kd.R_drew)); exact HO179.out) hb); have n2_ := Aside0.mk (blk_below (g := gb180) (o := .cells #[.int .i64 t170, .int .i64 t171, .slice Ao49 t172.length co49] 24 (0, 0)) (by (with_reducible repeat (first | refine blk_drewN ?_ _ | refine blk_drew ?_ | refine blk_alloc ?_ _)); exact BK180.out) hb); have n3_ := Aside0.mk (blk_below (g := gb181) (o := .cells #[.int .i64 t175, .int .i64 t176, .slice Ao51 t177.length co51] 27 (0, 0)) (by (with_reducible repeat (first | refine blk_drewN ?_ _ | refine blk_drew ?_ | refine blk_alloc ?_ _)); exact BK181.out) hb); have n4_ := Aside0.mk (below_step (by repeat (first | (with_reducible first | exact HB.out | apply below_alloc | apply pw_below_drewN | apply below_drew1 | refine below_set ?_ GE180.out | refine below_set ?_ GE181.out) | exact HB.out)) hb); clear HO174; clear HO179; clear BK180; clear BK181; clear HB; have HO174 := n0_; have HO179 := n1_; have BK180 := n2_; have BK181 := n3_; have HB := n4_; clear n0_ n1_ n2_ n3_ n4_; (try clear hb); (try clear hb2); (try clear hk); (try clear hi); have hcz57_0 : w56.cell? ⟨gb180, 0, none⟩ = some (.int .i64 t170) := (blk_cell BK180.out 0).trans rfl; have hcz57_1 : w56.cell? ⟨gb180, 1, none⟩ = some (.int .i64 t171) := (blk_cell BK180.out 1).trans rfl; have hcz57_2 : w56.cell? ⟨gb180, 2, none⟩ = some (.slice Ao49 t172.length co49) := (blk_cell BK180.out 2).trans rfl; have hfz57_0 := blk_frozen BK180.out 0; have hfz57_1 := blk_frozen BK180.out 1; have hfz57_2 := blk_frozen BK180.out 2; have hcz58_0 : w56.cell? ⟨gb181, 0, none⟩ = some (.int .i64 t175) := (blk_cell BK181.out 0).trans rfl; have hcz58_1 : w56.cell? ⟨gb181, 1, none⟩ = some (.int .i64 t176) := (blk_cell BK181.out 1).trans rfl; have hcz58_2 : w56.cell? ⟨gb181, 2, none⟩ = some (.slice Ao51 t177.length co51) := (blk_cell BK181.out 2).trans rfl; have hfz58_0 := blk_frozen BK181.out 0; have hfz58_1 := blk_frozen BK181.out 1; have hfz58_2 := blk_frozen BK181.out 2) | (go_at_call 13; (with_reducible refine (bank_Match.calls k t170 t171 _ _ t172 t175 t176 _ _ t177 t188 t191 _ ?side1 ?side2 ?side3 ?side4 A5.out).mono ?_); (case side1 => repeat (first | exact (Kd.R_reads' HO174.out).2.2 | (with_reducible refine Kd.C_alloc ?_ _) | (with_reducible refine Kd.C_drewN ?_ _) | (with_reducible refine Kd.C_drew ?_))); (case side2 => exact (Kd.R_reads' HO174.out).2.1); (case side3 => repeat (first | exact (Kd.R_reads' HO179.out).2.2 | (with_reducible refine Kd.C_alloc ?_ _) | (with_reducible refine Kd.C_drewN ?_ _) | (with_reducible refine Kd.C_drew ?_))); (case side4 => exact (Kd.R_reads' HO179.out).2.1); rintro e w59 ⟨v189, rfl, ho0, hb⟩; have n0_ := Aside0.mk (Kd.R_elder' (by (with_reducible repeat (first | apply Kd.R_alloc | apply Kd.R_drewN | apply Kd.R_drew)); exact HO174.out) (Kd.R_base ho0) hb); have n1_ := Aside0.mk (Kd.R_below (by (with_reducible repeat (first | apply Kd.R_alloc | apply Kd.R_drewN | apply Kd.R_drew)); exact HO179.out) hb); have n2_ := Aside0.mk (Kd.R_lower (Kd.R_new' ho0 (Kd.R_lt (by (with_reducible repeat (first | apply Kd.R_alloc | apply Kd.R_drewN | apply Kd.R_drew)); exact HO174.out))) (below_size (by repeat (first | (with_reducible first | exact HB.out | apply below_alloc | apply pw_below_drewN | apply below_drew1 | refine below_set ?_ GE180.out | refine below_set ?_ GE181.out) | exact HB.out)))); have n3_ := Aside0.mk (blk_below (g := gb180) (o := .cells #[.int .i64 t170, .int .i64 t171, .slice Ao49 t172.length co49] 24 (0, 0)) (by (with_reducible repeat (first | refine blk_drewN ?_ _ | refine blk_drew ?_ | refine blk_alloc ?_ _)); exact BK180.out) hb); have n4_ := Aside0.mk (blk_below (g := gb181) (o := .cells #[.int .i64 t175, .int .i64 t176, .slice Ao51 t177.length co51] 27 (0, 0)) (by (with_reducible repeat (first | refine blk_drewN ?_ _ | refine blk_drew ?_ | refine blk_alloc ?_ _)); exact BK181.out) hb); have n5_ := Aside0.mk (below_step (by repeat (first | (with_reducible first | exact HB.out | apply below_alloc | apply pw_below_drewN | apply below_drew1 | refine below_set ?_ GE180.out | refine below_set ?_ GE181.out) | exact HB.out)) hb); clear HO174; clear HO179; clear BK180; clear BK181; clear HB; have HO174 := n0_; have HO179 := n1_; have HO190 := n2_; have BK180 := n3_; have BK181 := n4_; have HB := n5_; clear n0_ n1_ n2_ n3_ n4_ n5_; (try clear hb); (try clear hb2); (try clear hk); (try clear hi); (try clear ho0)) | (go_at_call 19; (refine (bank_Write.calls k 1 0 _ _ ([] : List (S45)) t192 t193 _ ?side1 ?side2 ?side3 A6.out).mono ?_); (case side1 => exact Kd.C_nil _ _); (case side2 => exact Nat.le_refl _); (case side3 => exact GG.below HG.out (by repeat (first | (with_reducible first | exact HB.out | apply below_alloc | apply pw_below_drewN | apply below_drew1 | refine below_set ?_ GE180.out | refine below_set ?_ GE181.out) | exact HB.out))); rintro e w60 ⟨rfl, hb⟩; have n0_ := Aside0.mk (Kd.R_below (by (with_reducible repeat (first | apply Kd.R_alloc | apply Kd.R_drewN | apply Kd.R_drew)); exact HO174.out) hb); have n1_ := Aside0.mk (Kd.R_below (by (with_reducible repeat (first | apply Kd.R_alloc | apply Kd.R_drewN | apply Kd.R_drew)); exact HO179.out) hb); have n2_ := Aside0.mk (Kd.R_below (by (with_reducible repeat (first | apply Kd.R_alloc | apply Kd.R_drewN | apply Kd.R_drew)); exact HO190.out) hb); have n3_ := Aside0.mk (blk_below (g := gb180) (o := .cells #[.int .i64 t170, .int .i64 t171, .slice Ao49 t172.length co49] 24 (0, 0)) (by (with_reducible repeat (first | refine blk_drewN ?_ _ | refine blk_drew ?_ | refine blk_alloc ?_ _)); exact BK180.out) hb); have n4_ := Aside0.mk (blk_below (g := gb181) (o := .cells #[.int .i64 t175, .int .i64 t176, .slice Ao51 t177.length co51] 27 (0, 0)) (by (with_reducible repeat (first | refine blk_drewN ?_ _ | refine blk_drew ?_ | refine blk_alloc ?_ _)); exact BK181.out) hb); have n5_ := Aside0.mk (below_step (by repeat (first | (with_reducible first | exact HB.out | apply below_alloc | apply pw_below_drewN | apply below_drew1 | refine below_set ?_ GE180.out | refine below_set ?_ GE181.out) | exact HB.out)) hb); clear HO174; clear HO179; clear HO190; clear BK180; clear BK181; clear HB; have HO174 := n0_; have HO179 := n1_; have HO190 := n2_; have BK180 := n3_; have BK181 := n4_; have HB := n5_; clear n0_ n1_ n2_ n3_ n4_ n5_; (try clear hb); (try clear hb2); (try clear hk); (try clear hi)))
             repeat (go_quiet (skip); try go_wp2)
             go_ret
             exact ⟨by first | rfl | (simp [errW_none, errW_some] <;> rfl) | (simp [*, errW_none, errW_some] <;> rfl), by repeat (first | (with_reducible first | exact HB.out | apply below_alloc | apply pw_below_drewN | apply below_drew1 | refine below_set ?_ GE180.out | refine below_set ?_ GE181.out) | exact HB.out)⟩
           ·
            rw [if_neg c17] at H
            exact absurd H (by simp)
          ·
           rw [if_neg c16] at H
           exact absurd H (by simp)
         ·
          rw [if_neg c15] at H
          exact absurd H (by simp)
        ·
         rw [if_neg c14] at H
         exact absurd H (by simp)
       ·
        rw [if_neg c13] at H
        exact absurd H (by simp)
      ·
       rw [if_neg c12] at H
       exact absurd H (by simp)
     ·
      rw [if_neg c11] at H
      exact absurd H (by simp)
    ·
     rw [if_neg c10] at H
     exact absurd H (by simp)
   ·
    rw [if_neg c9] at H
    exact absurd H (by simp)
  ·
   rw [if_neg c8] at H
   exact absurd H (by simp)
 ·
  rw [if_neg c7] at H
  exact absurd H (by simp)

end Go.Proofs.YtndojpcjhkncgaaDoor.Q
end

section
namespace Go.Proofs.YtndojpcjhkncgaaDoor.Q
open Go.RowKit Go.Proofs.YtndojpcjhkncgaaDoorW.PrintWords Go.Proofs.YtndojpcjhkncgaaDoorW.PrintLast Go.Proofs.YtndojpcjhkncgaaDoorW.PrintMore
attribute [local go_sem] max2_int min2_int max_two min_two max_three min_three max_four min_four   -- for this text's walks alone
set_option linter.unusedVariables false
set_option linter.unusedSimpArgs false

attribute [local go_sem high] eqA45
/-! ### annuitantlaw36_sameOrders: function 25 -/
def annuitantlaw36_sameOrders.l0 : Nat → List (S45) → List (S45) → Int → Option (Bool)
 | 0, _, _, _ => none
 | k + 1, x0, x1, x5 => if x5 < (x0.length : Int) then (if 0 ≤ x5 then (if x5 < (x1.length : Int) then (if (!(((rd_T45 x0 x5).f0) == ((rd_T45 x1 x5).f0)) || (!(((rd_T45 x0 x5).f1) == ((rd_T45 x1 x5).f1)) || (!(((rd_T45 x0 x5).f2) == ((rd_T45 x1 x5).f2)) || (!(((rd_T45 x0 x5).f3) == ((rd_T45 x1 x5).f3)) || (!(((rd_T45 x0 x5).f4) == ((rd_T45 x1 x5).f4))))))) = true then (some false) else (annuitantlaw36_sameOrders.l0 k x0 x1 (wrap64 (x5 + 1)))) else (none)) else (none)) else (some true)
def annuitantlaw36_sameOrders.f (k : Nat) (l0 : List (S45)) (l1 : List (S45)) : Option (Bool) := if (l0.length : Int) = (l1.length : Int) then (annuitantlaw36_sameOrders.l0 k l0 l1 0) else (some false)
theorem annuitantlaw36_sameOrders.mono_l : ∀ k, (∀ y0 y1 y2, LeO (annuitantlaw36_sameOrders.l0 k y0 y1 y2) (annuitantlaw36_sameOrders.l0 (k + 1) y0 y1 y2))
 | 0 => fun _ _ _ r h => by simp [annuitantlaw36_sameOrders.l0] at h
 | k + 1 => by
  have ih0 := annuitantlaw36_sameOrders.mono_l k
  ·
   intro y0 y1 y2
   unfold annuitantlaw36_sameOrders.l0
   repeat' first
   | (with_reducible exact ih0 _ _ _)
   | (with_reducible exact LeO.refl _)
   | (with_reducible exact LeO.none _)
   | (with_reducible refine LeO.ite ?_ ?_)
   | (with_reducible refine LeO.bind ?_ (fun _ => ?_))
   | exact ih0 _ _ _
   | exact LeO.none _
   | refine LeO.ite ?_ ?_
   | refine LeO.bind ?_ (fun _ => ?_)
theorem annuitantlaw36_sameOrders.mono : ∀ a0 a1 k, LeO (annuitantlaw36_sameOrders.f k a0 a1) (annuitantlaw36_sameOrders.f (k + 1) a0 a1) := by
 intro a0 a1 k
 have ih0 := annuitantlaw36_sameOrders.mono_l k
 unfold annuitantlaw36_sameOrders.f
 repeat' first
   | (with_reducible exact ih0 _ _ _)
   | (with_reducible exact LeO.refl _)
   | (with_reducible exact LeO.none _)
   | (with_reducible refine LeO.ite ?_ ?_)
   | (with_reducible refine LeO.bind ?_ (fun _ => ?_))
   | exact ih0 _ _ _
   | exact LeO.none _
   | refine LeO.ite ?_ ?_
   | refine LeO.bind ?_ (fun _ => ?_)
set_option maxHeartbeats 8000000 in
set_option maxRecDepth 100000 in
theorem annuitantlaw36_sameOrders.calls (k : Nat) (A0 : Option Addr) (c0 : Nat) (l0 : List (S45)) (A1 : Option Addr) (c1 : Nat) (l1 : List (S45)) (r : Bool) (w : World) (hr0 : Kd.C k45 w A0 l0.length l0) (hc0 : l0.length ≤ c0) (hr1 : Kd.C k45 w A1 l1.length l1) (hc1 : l1.length ≤ c1) (h : annuitantlaw36_sameOrders.f k l0 l1 = some r) :
  Calls Tryd.prog 25 #[.slice A0 l0.length c0, .slice A1 l1.length c1] w fun e w' => e = .returned (.bool r) ∧ Drawn0 w w' := by
 have hu45 := Tryd.underlying45
 have HR0 := Aside0.mk hr0
 have HC0 := Aside0.mk hc0
 clear hr0 hc0
 have HR1 := Aside0.mk hr1
 have HC1 := Aside0.mk hc1
 clear hr1 hc1
 have H : (if (l0.length : Int) = (l1.length : Int) then (annuitantlaw36_sameOrders.l0 k l0 l1 0) else (some false)) = some r := h
 clear h
 by_cases c3 : (l0.length : Int) = (l1.length : Int)
 ·
  rw [if_pos c3] at H
  have c3b0 : ((l0.length : Int) == (l1.length : Int)) = true := beq_iff_eq.mpr c3
  have c3b1 : ((l0.length : Int) != (l1.length : Int)) = false := bne_eq_false_iff_eq.mpr c3
  have c3b2 : (l0.length == l1.length) = true := by first | simpa using c3 | (simp at c3 ⊢; omega)
  clear c3
  have H' := Aside0.mk H
  clear H
  go_enter Tryd.func25, Tryd.ntmps25
  go_wp2
  repeat (go_quiet (skip); try go_wp2)
  go_loopg [5] k (fun kq v5 w' => ∃ (x5_1 : Int), v5 = .int .i64 x5_1 ∧ Aside0 (annuitantlaw36_sameOrders.l0 kq l0 l1 x5_1 = some r) ∧ Aside0 (kq ≤ k) ∧ Drawn0 w w')
  case atStart => exact ⟨(0), (by first | rfl | (simp; done) | (simp [*]; done)), H', ⟨Nat.le_refl _⟩, by repeat (first | exact Drawn0.refl _ | apply Drawn0.step)⟩
  case round =>
   clear H'
   try clear c1
   try clear c2
   try clear p2
   try clear c3
   try clear c3b0
   try clear c3b1
   try clear c3b2
   obtain ⟨x5_1, rfl, HA, HK1, ⟨m1, rfl⟩⟩ := hrel
   cases gk with
   | zero => exact absurd HA.out (by simp [annuitantlaw36_sameOrders.l0])
   | succ k1 =>
    have H := HA.out
    clear HA
    simp only [annuitantlaw36_sameOrders.l0] at H
    by_cases c4 : x5_1 < (l0.length : Int)
    ·
     rw [if_pos c4] at H
     have c4b0 : decide (x5_1 < (l0.length : Int)) = true := decide_eq_true c4
     clear c4
     by_cases c5 : 0 ≤ x5_1
     ·
      rw [if_pos c5] at H
      have c5b0 : decide (0 ≤ x5_1) = true := decide_eq_true c5
      clear c5
      by_cases c6 : x5_1 < (l1.length : Int)
      ·
       rw [if_pos c6] at H
       have c6b0 : decide (x5_1 < (l1.length : Int)) = true := decide_eq_true c6
       clear c6
       by_cases c7 : (!(((rd_T45 l0 x5_1).f0) == ((rd_T45 l1 x5_1).f0)) || (!(((rd_T45 l0 x5_1).f1) == ((rd_T45 l1 x5_1).f1)) || (!(((rd_T45 l0 x5_1).f2) == ((rd_T45 l1 x5_1).f2)) || (!(((rd_T45 l0 x5_1).f3) == ((rd_T45 l1 x5_1).f3)) || (!(((rd_T45 l0 x5_1).f4) == ((rd_T45 l1 x5_1).f4))))))) = true
       ·
        rw [if_pos c7] at H
        have c7b0 : (!(((rd_T45 l0 x5_1).f0) == ((rd_T45 l1 x5_1).f0)) || (!(((rd_T45 l0 x5_1).f1) == ((rd_T45 l1 x5_1).f1)) || (!(((rd_T45 l0 x5_1).f2) == ((rd_T45 l1 x5_1).f2)) || (!(((rd_T45 l0 x5_1).f3) == ((rd_T45 l1 x5_1).f3)) || (!(((rd_T45 l0 x5_1).f4) == ((rd_T45 l1 x5_1).f4))))))) = true := c7
        clear c7
        obtain rfl := Option.some.inj H
        have p249 : 0 ≤ (x5_1 : Int) := of_decide_eq_true (by first | (with_reducible assumption) | assumption)
        have q249 : x5_1 < (l0.length : Int) := of_decide_eq_true (by first | (with_reducible assumption) | assumption)
        obtain ⟨ad249, e249, hx249_0, hx249_1, hx249_2, hx249_3, hx249_4⟩ := at_T45 HR0.out x5_1 p249 q249
        cases e249
        replace p249 := eq_true p249
        replace q249 := eq_true q249
        have p250 : 0 ≤ (x5_1 : Int) := of_decide_eq_true (by first | (with_reducible assumption) | assumption)
        have q250 : x5_1 < (l1.length : Int) := of_decide_eq_true (by first | (with_reducible assumption) | assumption)
        obtain ⟨ad250, e250, hx250_0, hx250_1, hx250_2, hx250_3, hx250_4⟩ := at_T45 HR1.out x5_1 p250 q250
        cases e250
        replace p250 := eq_true p250
        replace q250 := eq_true q250
        go_wp2
        repeat (go_quiet (skip); try go_wp2)
        go_ret
        exact ⟨by first | rfl | (simp; done) | (simp [*]; done), by repeat (first | exact Drawn0.refl _ | apply Drawn0.step)⟩
       ·
        rw [if_neg c7] at H
        have c7b0 : (!(((rd_T45 l0 x5_1).f0) == ((rd_T45 l1 x5_1).f0)) || (!(((rd_T45 l0 x5_1).f1) == ((rd_T45 l1 x5_1).f1)) || (!(((rd_T45 l0 x5_1).f2) == ((rd_T45 l1 x5_1).f2)) || (!(((rd_T45 l0 x5_1).f3) == ((rd_T45 l1 x5_1).f3)) || (!(((rd_T45 l0 x5_1).f4) == ((rd_T45 l1 x5_1).f4))))))) = false := by simpa using c7
        clear c7
        have H' := Aside0.mk H
        clear H
        have p249 : 0 ≤ (x5_1 : Int) := of_decide_eq_true (by first | (with_reducible assumption) | assumption)
        have q249 : x5_1 < (l0.length : Int) := of_decide_eq_true (by first | (with_reducible assumption) | assumption)
        obtain ⟨ad249, e249, hx249_0, hx249_1, hx249_2, hx249_3, hx249_4⟩ := at_T45 HR0.out x5_1 p249 q249
        cases e249
        replace p249 := eq_true p249
        replace q249 := eq_true q249
        have p250 : 0 ≤ (x5_1 : Int) := of_decide_eq_true (by first | (with_reducible assumption) | assumption)
        have q250 : x5_1 < (l1.length : Int) := of_decide_eq_true (by first | (with_reducible assumption) | assumption)
        obtain ⟨ad250, e250, hx250_0, hx250_1, hx250_2, hx250_3, hx250_4⟩ := at_T45 HR1.out x5_1 p250 q250
        cases e250
        replace p250 := eq_true p250
        replace q250 := eq_true q250
        go_wp2
        repeat (go_quiet (skip); try go_wp2)
        go_roundg k1
        case measure => have := HK1.out; omega
        case rel => exact ⟨(wrap64 (x5_1 + 1)), (by first | rfl | (simp; done) | (simp [*]; done)), H', ⟨by have := HK1.out; omega⟩, by repeat (first | exact Drawn0.refl _ | apply Drawn0.step)⟩
      ·
       rw [if_neg c6] at H
       exact absurd H (by simp)
     ·
      rw [if_neg c5] at H
      exact absurd H (by simp)
    ·
     rw [if_neg c4] at H
     have c4b0 : decide (x5_1 < (l0.length : Int)) = false := decide_eq_false c4
     clear c4
     obtain rfl := Option.some.inj H
     go_wp2
     repeat (go_quiet (skip); try go_wp2)
     go_ret
     exact ⟨by first | rfl | (simp; done) | (simp [*]; done), by repeat (first | exact Drawn0.refl _ | apply Drawn0.step)⟩
 ·
  rw [if_neg c3] at H
  have c3b0 : ((l0.length : Int) == (l1.length : Int)) = false := beq_eq_false_iff_ne.mpr c3
  have c3b1 : ((l0.length : Int) != (l1.length : Int)) = true := bne_iff_ne.mpr c3
  have c3b2 : (l0.length == l1.length) = false := by first | simpa using c3 | (simp at c3 ⊢; omega)
  obtain rfl := Option.some.inj H
  go_enter Tryd.func25, Tryd.ntmps25
  go_wp2
  repeat (go_quiet (skip); try go_wp2)
  go_ret
  exact ⟨by first | rfl | (simp; done) | (simp [*]; done), by repeat (first | exact Drawn0.refl _ | apply Drawn0.step)⟩

end Go.Proofs.YtndojpcjhkncgaaDoor.Q
end
