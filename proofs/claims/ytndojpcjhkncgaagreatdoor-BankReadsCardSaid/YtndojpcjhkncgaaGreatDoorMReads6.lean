/- Part 6 of a proof: the texts QFlaw36awake, SAwake, QFlaw36plain, QFlaw36reads, QFlaw36BankReads, SReads, Open, OpenB, LaidZ, put together by a program of this repo. -/
import Derived.ProofKit
import Derived.SizedLaws
import Derived.Deep.Slices
import Derived.OpenShut
import Derived.Test.YtndojpcjhkncgaaGreatDoorRows
import Derived.Lib.LaidTab
import Derived.LaidMore
import Derived.LaidHandle
import Derived.MakeChecks
import Derived.Stop.LaidErr
import Derived.Shelf.Vars
import Derived.Test.YtndojpcjhkncgaaGreatDoorMReads1
import Derived.Test.YtndojpcjhkncgaaGreatDoorMReads5
import Derived.Test.YtndojpcjhkncgaaGreatDoorMReads2
import Derived.Test.YtndojpcjhkncgaaGreatDoorMReads3
import Derived.Test.YtndojpcjhkncgaaGreatDoorMReads4

section
namespace Go.Proofs.YtndojpcjhkncgaaGreatDoor.Q
open Go.RowKit Go.Proofs.YtndojpcjhkncgaaGreatDoorW.PrintWords Go.Proofs.YtndojpcjhkncgaaGreatDoorW.PrintLast Go.Proofs.YtndojpcjhkncgaaGreatDoorW.PrintMore
attribute [local go_sem] max2_int min2_int max_two min_two max_three min_three max_four min_four   -- for this text's walks alone
set_option linter.unusedVariables false
set_option linter.unusedSimpArgs false
attribute [local go_sem high] eqA47
def annuitantlaw36_awake.f (k : Nat)  : Option (Bool) := (annuitantlaw36_two.f).bind fun bt152 => ((bank_Total.f k bt152.1 bt152.2.1 bt152.2.2.1).bind fun bt164 => ((bank_Write.f k bt152.1 bt152.2.1 bt152.2.2.1).bind fun bt166 => ((bank_WriteAnswer.f k bt152.2.2.2.1 bt152.2.2.2.2.1 bt152.2.2.2.2.2).bind fun bt168 => ((bank_Match.f k bt152.1 bt152.2.1 bt152.2.2.1 bt152.2.2.2.1 bt152.2.2.2.2.1 bt152.2.2.2.2.2).bind fun bt170 => ((bank_Write.f k 1 0 ([] : List (S47))).bind fun bt174 => (if bt164.2 = 0 then (if bt164.1 = 850 then (if bt166.2 = 0 then (if bt168.2 = 0 then (if (bt166.1.size : Int) = 81 then (if (bt168.1.size : Int) = 46 then (if 0 ≤ 63 then (if 63 ≤ (bt166.1.size : Int) then (if (bt166.1.extract 0 63).toList = ([80, 65, 89, 32, 55, 32, 49, 48, 48, 32, 50, 32, 56, 53, 48, 10, 111, 114, 100, 101, 114, 32, 51, 32, 53, 53, 32, 49, 48, 48, 48, 32, 50, 48, 48, 32, 56, 48, 48, 10, 111, 114, 100, 101, 114, 32, 52, 32, 53, 54, 32, 53, 48, 32, 48, 32, 53, 48, 10, 69, 78, 68, 32] : List UInt8) then (if 0 ≤ 28 then (if 28 ≤ (bt168.1.size : Int) then (if (bt168.1.extract 0 28).toList = ([66, 65, 67, 75, 32, 55, 32, 49, 48, 50, 32, 49, 10, 114, 101, 116, 117, 114, 110, 32, 52, 32, 50, 10, 69, 78, 68, 32] : List UInt8) then (if bt170.2 = 0 then (if (bt170.1.length : Int) = 1 then (if 0 < (bt170.1.length : Int) then (if 1 < (bt152.2.2.1.length : Int) then (if (((rd_T47 bt170.1 0).f0) == ((rd_T47 bt152.2.2.1 1).f0) && (((rd_T47 bt170.1 0).f1) == ((rd_T47 bt152.2.2.1 1).f1) && (((rd_T47 bt170.1 0).f2) == ((rd_T47 bt152.2.2.1 1).f2) && (((rd_T47 bt170.1 0).f3) == ((rd_T47 bt152.2.2.1 1).f3) && (((rd_T47 bt170.1 0).f4) == ((rd_T47 bt152.2.2.1 1).f4)))))) = true then (if bt174.2 = 0 then (some (bt174.1.toList == ([80, 65, 89, 32, 49, 32, 48, 32, 48, 32, 48, 10, 69, 78, 68, 32, 48, 48, 48, 48, 48, 50, 51, 53, 32, 48, 48, 48, 48, 48, 98, 100, 97, 10] : List UInt8))) else (none)) else (none)) else (none)) else (none)) else (none)) else (none)) else (some false)) else (none)) else (none)) else (none)) else (none)) else (none)) else (none)) else (none)) else (none)) else (none)) else (none)) else (none)))))))
set_option maxHeartbeats 8000000 in
set_option maxRecDepth 100000 in
theorem annuitantlaw36_awake.calls (k : Nat)  (r : Bool) (w : World) (hG : GG w) (h : annuitantlaw36_awake.f k  = some r) :
  Calls Tryz.prog 9 #[] w fun e w' => e = .returned (.bool r) ∧ Below w.heap.size w w' := by
 have hu27 := Tryz.underlying27; have hu30 := Tryz.underlying30; have hu47 := Tryz.underlying47; have HG := Aside0.mk hG; clear hG; have HB := Aside0.mk (Below.refl w.heap.size w); have H : ((annuitantlaw36_two.f).bind fun bt152 => ((bank_Total.f k bt152.1 bt152.2.1 bt152.2.2.1).bind fun bt164 => ((bank_Write.f k bt152.1 bt152.2.1 bt152.2.2.1).bind fun bt166 => ((bank_WriteAnswer.f k bt152.2.2.2.1 bt152.2.2.2.2.1 bt152.2.2.2.2.2).bind fun bt168 => ((bank_Match.f k bt152.1 bt152.2.1 bt152.2.2.1 bt152.2.2.2.1 bt152.2.2.2.2.1 bt152.2.2.2.2.2).bind fun bt170 => ((bank_Write.f k 1 0 ([] : List (S47))).bind fun bt174 => (if bt164.2 = 0 then (if bt164.1 = 850 then (if bt166.2 = 0 then (if bt168.2 = 0 then (if (bt166.1.size : Int) = 81 then (if (bt168.1.size : Int) = 46 then (if 0 ≤ 63 then (if 63 ≤ (bt166.1.size : Int) then (if (bt166.1.extract 0 63).toList = ([80, 65, 89, 32, 55, 32, 49, 48, 48, 32, 50, 32, 56, 53, 48, 10, 111, 114, 100, 101, 114, 32, 51, 32, 53, 53, 32, 49, 48, 48, 48, 32, 50, 48, 48, 32, 56, 48, 48, 10, 111, 114, 100, 101, 114, 32, 52, 32, 53, 54, 32, 53, 48, 32, 48, 32, 53, 48, 10, 69, 78, 68, 32] : List UInt8) then (if 0 ≤ 28 then (if 28 ≤ (bt168.1.size : Int) then (if (bt168.1.extract 0 28).toList = ([66, 65, 67, 75, 32, 55, 32, 49, 48, 50, 32, 49, 10, 114, 101, 116, 117, 114, 110, 32, 52, 32, 50, 10, 69, 78, 68, 32] : List UInt8) then (if bt170.2 = 0 then (if (bt170.1.length : Int) = 1 then (if 0 < (bt170.1.length : Int) then (if 1 < (bt152.2.2.1.length : Int) then (if (((rd_T47 bt170.1 0).f0) == ((rd_T47 bt152.2.2.1 1).f0) && (((rd_T47 bt170.1 0).f1) == ((rd_T47 bt152.2.2.1 1).f1) && (((rd_T47 bt170.1 0).f2) == ((rd_T47 bt152.2.2.1 1).f2) && (((rd_T47 bt170.1 0).f3) == ((rd_T47 bt152.2.2.1 1).f3) && (((rd_T47 bt170.1 0).f4) == ((rd_T47 bt152.2.2.1 1).f4)))))) = true then (if bt174.2 = 0 then (some (bt174.1.toList == ([80, 65, 89, 32, 49, 32, 48, 32, 48, 32, 48, 10, 69, 78, 68, 32, 48, 48, 48, 48, 48, 50, 51, 53, 32, 48, 48, 48, 48, 48, 98, 100, 97, 10] : List UInt8))) else (none)) else (none)) else (none)) else (none)) else (none)) else (none)) else (some false)) else (none)) else (none)) else (none)) else (none)) else (none)) else (none)) else (none)) else (none)) else (none)) else (none)) else (none)))))))) = some r := h; clear h; replace H := Option.bind_eq_some_iff.mp H; obtain ⟨⟨t152, t153, t154, t157, t158, t159⟩, A10, H⟩ := H; replace H : ((bank_Total.f k t152 t153 t154).bind fun bt164 => ((bank_Write.f k t152 t153 t154).bind fun bt166 => ((bank_WriteAnswer.f k t157 t158 t159).bind fun bt168 => ((bank_Match.f k t152 t153 t154 t157 t158 t159).bind fun bt170 => ((bank_Write.f k 1 0 ([] : List (S47))).bind fun bt174 => (if bt164.2 = 0 then (if bt164.1 = 850 then (if bt166.2 = 0 then (if bt168.2 = 0 then (if (bt166.1.size : Int) = 81 then (if (bt168.1.size : Int) = 46 then (if 0 ≤ 63 then (if 63 ≤ (bt166.1.size : Int) then (if (bt166.1.extract 0 63).toList = ([80, 65, 89, 32, 55, 32, 49, 48, 48, 32, 50, 32, 56, 53, 48, 10, 111, 114, 100, 101, 114, 32, 51, 32, 53, 53, 32, 49, 48, 48, 48, 32, 50, 48, 48, 32, 56, 48, 48, 10, 111, 114, 100, 101, 114, 32, 52, 32, 53, 54, 32, 53, 48, 32, 48, 32, 53, 48, 10, 69, 78, 68, 32] : List UInt8) then (if 0 ≤ 28 then (if 28 ≤ (bt168.1.size : Int) then (if (bt168.1.extract 0 28).toList = ([66, 65, 67, 75, 32, 55, 32, 49, 48, 50, 32, 49, 10, 114, 101, 116, 117, 114, 110, 32, 52, 32, 50, 10, 69, 78, 68, 32] : List UInt8) then (if bt170.2 = 0 then (if (bt170.1.length : Int) = 1 then (if 0 < (bt170.1.length : Int) then (if 1 < (t154.length : Int) then (if (((rd_T47 bt170.1 0).f0) == ((rd_T47 t154 1).f0) && (((rd_T47 bt170.1 0).f1) == ((rd_T47 t154 1).f1) && (((rd_T47 bt170.1 0).f2) == ((rd_T47 t154 1).f2) && (((rd_T47 bt170.1 0).f3) == ((rd_T47 t154 1).f3) && (((rd_T47 bt170.1 0).f4) == ((rd_T47 t154 1).f4)))))) = true then (if bt174.2 = 0 then (some (bt174.1.toList == ([80, 65, 89, 32, 49, 32, 48, 32, 48, 32, 48, 10, 69, 78, 68, 32, 48, 48, 48, 48, 48, 50, 51, 53, 32, 48, 48, 48, 48, 48, 98, 100, 97, 10] : List UInt8))) else (none)) else (none)) else (none)) else (none)) else (none)) else (none)) else (some false)) else (none)) else (none)) else (none)) else (none)) else (none)) else (none)) else (none)) else (none)) else (none)) else (none)) else (none))))))) = some r := H; have A1 := Aside0.mk A10; clear A10; replace H := Option.bind_eq_some_iff.mp H; obtain ⟨⟨t164, t165⟩, A20, H⟩ := H; replace H : ((bank_Write.f k t152 t153 t154).bind fun bt166 => ((bank_WriteAnswer.f k t157 t158 t159).bind fun bt168 => ((bank_Match.f k t152 t153 t154 t157 t158 t159).bind fun bt170 => ((bank_Write.f k 1 0 ([] : List (S47))).bind fun bt174 => (if t165 = 0 then (if t164 = 850 then (if bt166.2 = 0 then (if bt168.2 = 0 then (if (bt166.1.size : Int) = 81 then (if (bt168.1.size : Int) = 46 then (if 0 ≤ 63 then (if 63 ≤ (bt166.1.size : Int) then (if (bt166.1.extract 0 63).toList = ([80, 65, 89, 32, 55, 32, 49, 48, 48, 32, 50, 32, 56, 53, 48, 10, 111, 114, 100, 101, 114, 32, 51, 32, 53, 53, 32, 49, 48, 48, 48, 32, 50, 48, 48, 32, 56, 48, 48, 10, 111, 114, 100, 101, 114, 32, 52, 32, 53, 54, 32, 53, 48, 32, 48, 32, 53, 48, 10, 69, 78, 68, 32] : List UInt8) then (if 0 ≤ 28 then (if 28 ≤ (bt168.1.size : Int) then (if (bt168.1.extract 0 28).toList = ([66, 65, 67, 75, 32, 55, 32, 49, 48, 50, 32, 49, 10, 114, 101, 116, 117, 114, 110, 32, 52, 32, 50, 10, 69, 78, 68, 32] : List UInt8) then (if bt170.2 = 0 then (if (bt170.1.length : Int) = 1 then (if 0 < (bt170.1.length : Int) then (if 1 < (t154.length : Int) then (if (((rd_T47 bt170.1 0).f0) == ((rd_T47 t154 1).f0) && (((rd_T47 bt170.1 0).f1) == ((rd_T47 t154 1).f1) && (((rd_T47 bt170.1 0).f2) == ((rd_T47 t154 1).f2) && (((rd_T47 bt170.1 0).f3) == ((rd_T47 t154 1).f3) && (((rd_T47 bt170.1 0).f4) == ((rd_T47 t154 1).f4)))))) = true then (if bt174.2 = 0 then (some (bt174.1.toList == ([80, 65, 89, 32, 49, 32, 48, 32, 48, 32, 48, 10, 69, 78, 68, 32, 48, 48, 48, 48, 48, 50, 51, 53, 32, 48, 48, 48, 48, 48, 98, 100, 97, 10] : List UInt8))) else (none)) else (none)) else (none)) else (none)) else (none)) else (none)) else (some false)) else (none)) else (none)) else (none)) else (none)) else (none)) else (none)) else (none)) else (none)) else (none)) else (none)) else (none)))))) = some r := H; have A2 := Aside0.mk A20; clear A20; replace H := Option.bind_eq_some_iff.mp H; obtain ⟨⟨t166, t167⟩, A30, H⟩ := H; replace H : ((bank_WriteAnswer.f k t157 t158 t159).bind fun bt168 => ((bank_Match.f k t152 t153 t154 t157 t158 t159).bind fun bt170 => ((bank_Write.f k 1 0 ([] : List (S47))).bind fun bt174 => (if t165 = 0 then (if t164 = 850 then (if t167 = 0 then (if bt168.2 = 0 then (if (t166.size : Int) = 81 then (if (bt168.1.size : Int) = 46 then (if 0 ≤ 63 then (if 63 ≤ (t166.size : Int) then (if (t166.extract 0 63).toList = ([80, 65, 89, 32, 55, 32, 49, 48, 48, 32, 50, 32, 56, 53, 48, 10, 111, 114, 100, 101, 114, 32, 51, 32, 53, 53, 32, 49, 48, 48, 48, 32, 50, 48, 48, 32, 56, 48, 48, 10, 111, 114, 100, 101, 114, 32, 52, 32, 53, 54, 32, 53, 48, 32, 48, 32, 53, 48, 10, 69, 78, 68, 32] : List UInt8) then (if 0 ≤ 28 then (if 28 ≤ (bt168.1.size : Int) then (if (bt168.1.extract 0 28).toList = ([66, 65, 67, 75, 32, 55, 32, 49, 48, 50, 32, 49, 10, 114, 101, 116, 117, 114, 110, 32, 52, 32, 50, 10, 69, 78, 68, 32] : List UInt8) then (if bt170.2 = 0 then (if (bt170.1.length : Int) = 1 then (if 0 < (bt170.1.length : Int) then (if 1 < (t154.length : Int) then (if (((rd_T47 bt170.1 0).f0) == ((rd_T47 t154 1).f0) && (((rd_T47 bt170.1 0).f1) == ((rd_T47 t154 1).f1) && (((rd_T47 bt170.1 0).f2) == ((rd_T47 t154 1).f2) && (((rd_T47 bt170.1 0).f3) == ((rd_T47 t154 1).f3) && (((rd_T47 bt170.1 0).f4) == ((rd_T47 t154 1).f4)))))) = true then (if bt174.2 = 0 then (some (bt174.1.toList == ([80, 65, 89, 32, 49, 32, 48, 32, 48, 32, 48, 10, 69, 78, 68, 32, 48, 48, 48, 48, 48, 50, 51, 53, 32, 48, 48, 48, 48, 48, 98, 100, 97, 10] : List UInt8))) else (none)) else (none)) else (none)) else (none)) else (none)) else (none)) else (some false)) else (none)) else (none)) else (none)) else (none)) else (none)) else (none)) else (none)) else (none)) else (none)) else (none)) else (none))))) = some r := H; have A3 := Aside0.mk A30; clear A30; replace H := Option.bind_eq_some_iff.mp H; obtain ⟨⟨t168, t169⟩, A40, H⟩ := H; replace H : ((bank_Match.f k t152 t153 t154 t157 t158 t159).bind fun bt170 => ((bank_Write.f k 1 0 ([] : List (S47))).bind fun bt174 => (if t165 = 0 then (if t164 = 850 then (if t167 = 0 then (if t169 = 0 then (if (t166.size : Int) = 81 then (if (t168.size : Int) = 46 then (if 0 ≤ 63 then (if 63 ≤ (t166.size : Int) then (if (t166.extract 0 63).toList = ([80, 65, 89, 32, 55, 32, 49, 48, 48, 32, 50, 32, 56, 53, 48, 10, 111, 114, 100, 101, 114, 32, 51, 32, 53, 53, 32, 49, 48, 48, 48, 32, 50, 48, 48, 32, 56, 48, 48, 10, 111, 114, 100, 101, 114, 32, 52, 32, 53, 54, 32, 53, 48, 32, 48, 32, 53, 48, 10, 69, 78, 68, 32] : List UInt8) then (if 0 ≤ 28 then (if 28 ≤ (t168.size : Int) then (if (t168.extract 0 28).toList = ([66, 65, 67, 75, 32, 55, 32, 49, 48, 50, 32, 49, 10, 114, 101, 116, 117, 114, 110, 32, 52, 32, 50, 10, 69, 78, 68, 32] : List UInt8) then (if bt170.2 = 0 then (if (bt170.1.length : Int) = 1 then (if 0 < (bt170.1.length : Int) then (if 1 < (t154.length : Int) then (if (((rd_T47 bt170.1 0).f0) == ((rd_T47 t154 1).f0) && (((rd_T47 bt170.1 0).f1) == ((rd_T47 t154 1).f1) && (((rd_T47 bt170.1 0).f2) == ((rd_T47 t154 1).f2) && (((rd_T47 bt170.1 0).f3) == ((rd_T47 t154 1).f3) && (((rd_T47 bt170.1 0).f4) == ((rd_T47 t154 1).f4)))))) = true then (if bt174.2 = 0 then (some (bt174.1.toList == ([80, 65, 89, 32, 49, 32, 48, 32, 48, 32, 48, 10, 69, 78, 68, 32, 48, 48, 48, 48, 48, 50, 51, 53, 32, 48, 48, 48, 48, 48, 98, 100, 97, 10] : List UInt8))) else (none)) else (none)) else (none)) else (none)) else (none)) else (none)) else (some false)) else (none)) else (none)) else (none)) else (none)) else (none)) else (none)) else (none)) else (none)) else (none)) else (none)) else (none)))) = some r := H; have A4 := Aside0.mk A40; clear A40; replace H := Option.bind_eq_some_iff.mp H; obtain ⟨⟨t170, t173⟩, A50, H⟩ := H; replace H : ((bank_Write.f k 1 0 ([] : List (S47))).bind fun bt174 => (if t165 = 0 then (if t164 = 850 then (if t167 = 0 then (if t169 = 0 then (if (t166.size : Int) = 81 then (if (t168.size : Int) = 46 then (if 0 ≤ 63 then (if 63 ≤ (t166.size : Int) then (if (t166.extract 0 63).toList = ([80, 65, 89, 32, 55, 32, 49, 48, 48, 32, 50, 32, 56, 53, 48, 10, 111, 114, 100, 101, 114, 32, 51, 32, 53, 53, 32, 49, 48, 48, 48, 32, 50, 48, 48, 32, 56, 48, 48, 10, 111, 114, 100, 101, 114, 32, 52, 32, 53, 54, 32, 53, 48, 32, 48, 32, 53, 48, 10, 69, 78, 68, 32] : List UInt8) then (if 0 ≤ 28 then (if 28 ≤ (t168.size : Int) then (if (t168.extract 0 28).toList = ([66, 65, 67, 75, 32, 55, 32, 49, 48, 50, 32, 49, 10, 114, 101, 116, 117, 114, 110, 32, 52, 32, 50, 10, 69, 78, 68, 32] : List UInt8) then (if t173 = 0 then (if (t170.length : Int) = 1 then (if 0 < (t170.length : Int) then (if 1 < (t154.length : Int) then (if (((rd_T47 t170 0).f0) == ((rd_T47 t154 1).f0) && (((rd_T47 t170 0).f1) == ((rd_T47 t154 1).f1) && (((rd_T47 t170 0).f2) == ((rd_T47 t154 1).f2) && (((rd_T47 t170 0).f3) == ((rd_T47 t154 1).f3) && (((rd_T47 t170 0).f4) == ((rd_T47 t154 1).f4)))))) = true then (if bt174.2 = 0 then (some (bt174.1.toList == ([80, 65, 89, 32, 49, 32, 48, 32, 48, 32, 48, 10, 69, 78, 68, 32, 48, 48, 48, 48, 48, 50, 51, 53, 32, 48, 48, 48, 48, 48, 98, 100, 97, 10] : List UInt8))) else (none)) else (none)) else (none)) else (none)) else (none)) else (none)) else (some false)) else (none)) else (none)) else (none)) else (none)) else (none)) else (none)) else (none)) else (none)) else (none)) else (none)) else (none))) = some r := H; have A5 := Aside0.mk A50; clear A50; replace H := Option.bind_eq_some_iff.mp H; obtain ⟨⟨t174, t175⟩, A60, H⟩ := H; replace H : (if t165 = 0 then (if t164 = 850 then (if t167 = 0 then (if t169 = 0 then (if (t166.size : Int) = 81 then (if (t168.size : Int) = 46 then (if 0 ≤ 63 then (if 63 ≤ (t166.size : Int) then (if (t166.extract 0 63).toList = ([80, 65, 89, 32, 55, 32, 49, 48, 48, 32, 50, 32, 56, 53, 48, 10, 111, 114, 100, 101, 114, 32, 51, 32, 53, 53, 32, 49, 48, 48, 48, 32, 50, 48, 48, 32, 56, 48, 48, 10, 111, 114, 100, 101, 114, 32, 52, 32, 53, 54, 32, 53, 48, 32, 48, 32, 53, 48, 10, 69, 78, 68, 32] : List UInt8) then (if 0 ≤ 28 then (if 28 ≤ (t168.size : Int) then (if (t168.extract 0 28).toList = ([66, 65, 67, 75, 32, 55, 32, 49, 48, 50, 32, 49, 10, 114, 101, 116, 117, 114, 110, 32, 52, 32, 50, 10, 69, 78, 68, 32] : List UInt8) then (if t173 = 0 then (if (t170.length : Int) = 1 then (if 0 < (t170.length : Int) then (if 1 < (t154.length : Int) then (if (((rd_T47 t170 0).f0) == ((rd_T47 t154 1).f0) && (((rd_T47 t170 0).f1) == ((rd_T47 t154 1).f1) && (((rd_T47 t170 0).f2) == ((rd_T47 t154 1).f2) && (((rd_T47 t170 0).f3) == ((rd_T47 t154 1).f3) && (((rd_T47 t170 0).f4) == ((rd_T47 t154 1).f4)))))) = true then (if t175 = 0 then (some (t174.toList == ([80, 65, 89, 32, 49, 32, 48, 32, 48, 32, 48, 10, 69, 78, 68, 32, 48, 48, 48, 48, 48, 50, 51, 53, 32, 48, 48, 48, 48, 48, 98, 100, 97, 10] : List UInt8))) else (none)) else (none)) else (none)) else (none)) else (none)) else (none)) else (some false)) else (none)) else (none)) else (none)) else (none)) else (none)) else (none)) else (none)) else (none)) else (none)) else (none)) else (none)) = some r := H; have A6 := Aside0.mk A60; clear A60
 by_cases c7 : t165 = 0
 ·
  rw [if_pos c7] at H
  have c7b0 : (t165 == 0) = true := beq_iff_eq.mpr c7; have c7b1 : (t165 != 0) = false := bne_eq_false_iff_eq.mpr c7; clear c7
  by_cases c8 : t164 = 850
  ·
   rw [if_pos c8] at H
   have c8b0 : (t164 == 850) = true := beq_iff_eq.mpr c8; have c8b1 : (t164 != 850) = false := bne_eq_false_iff_eq.mpr c8; clear c8
   by_cases c9 : t167 = 0
   ·
    rw [if_pos c9] at H
    have c9b0 : (t167 == 0) = true := beq_iff_eq.mpr c9; have c9b1 : (t167 != 0) = false := bne_eq_false_iff_eq.mpr c9; clear c9
    by_cases c10 : t169 = 0
    ·
     rw [if_pos c10] at H
     have c10b0 : (t169 == 0) = true := beq_iff_eq.mpr c10; have c10b1 : (t169 != 0) = false := bne_eq_false_iff_eq.mpr c10; clear c10
     by_cases c11 : (t166.size : Int) = 81
     ·
      rw [if_pos c11] at H
      have c11b0 : ((t166.size : Int) == 81) = true := beq_iff_eq.mpr c11; have c11b1 : ((t166.size : Int) != 81) = false := bne_eq_false_iff_eq.mpr c11; clear c11
      by_cases c12 : (t168.size : Int) = 46
      ·
       rw [if_pos c12] at H
       have c12b0 : ((t168.size : Int) == 46) = true := beq_iff_eq.mpr c12; have c12b1 : ((t168.size : Int) != 46) = false := bne_eq_false_iff_eq.mpr c12; clear c12
       by_cases c13 : 0 ≤ 63
       ·
        rw [if_pos c13] at H
        have c13b0 := eq_true c13; have c13b1 : decide (0 ≤ 63) = true := decide_eq_true c13; clear c13
        by_cases c14 : 63 ≤ (t166.size : Int)
        ·
         rw [if_pos c14] at H
         have c14b0 := eq_true c14; have c14b1 : decide (63 ≤ (t166.size : Int)) = true := decide_eq_true c14; clear c14
         by_cases c15 : (t166.extract 0 63).toList = ([80, 65, 89, 32, 55, 32, 49, 48, 48, 32, 50, 32, 56, 53, 48, 10, 111, 114, 100, 101, 114, 32, 51, 32, 53, 53, 32, 49, 48, 48, 48, 32, 50, 48, 48, 32, 56, 48, 48, 10, 111, 114, 100, 101, 114, 32, 52, 32, 53, 54, 32, 53, 48, 32, 48, 32, 53, 48, 10, 69, 78, 68, 32] : List UInt8)
         ·
          rw [if_pos c15] at H
          have c15b0 : ((t166.extract 0 63).toList == ([80, 65, 89, 32, 55, 32, 49, 48, 48, 32, 50, 32, 56, 53, 48, 10, 111, 114, 100, 101, 114, 32, 51, 32, 53, 53, 32, 49, 48, 48, 48, 32, 50, 48, 48, 32, 56, 48, 48, 10, 111, 114, 100, 101, 114, 32, 52, 32, 53, 54, 32, 53, 48, 32, 48, 32, 53, 48, 10, 69, 78, 68, 32] : List UInt8)) = true := beq_iff_eq.mpr c15; have c15b1 : ((t166.extract 0 63).toList != ([80, 65, 89, 32, 55, 32, 49, 48, 48, 32, 50, 32, 56, 53, 48, 10, 111, 114, 100, 101, 114, 32, 51, 32, 53, 53, 32, 49, 48, 48, 48, 32, 50, 48, 48, 32, 56, 48, 48, 10, 111, 114, 100, 101, 114, 32, 52, 32, 53, 54, 32, 53, 48, 32, 48, 32, 53, 48, 10, 69, 78, 68, 32] : List UInt8)) = false := bne_eq_false_iff_eq.mpr c15; clear c15
          by_cases c16 : 0 ≤ 28
          ·
           rw [if_pos c16] at H
           have c16b0 := eq_true c16; have c16b1 : decide (0 ≤ 28) = true := decide_eq_true c16; clear c16
           by_cases c17 : 28 ≤ (t168.size : Int)
           ·
            rw [if_pos c17] at H
            have c17b0 := eq_true c17; have c17b1 : decide (28 ≤ (t168.size : Int)) = true := decide_eq_true c17; clear c17
            by_cases c18 : (t168.extract 0 28).toList = ([66, 65, 67, 75, 32, 55, 32, 49, 48, 50, 32, 49, 10, 114, 101, 116, 117, 114, 110, 32, 52, 32, 50, 10, 69, 78, 68, 32] : List UInt8)
            ·
             rw [if_pos c18] at H
             have c18b0 : ((t168.extract 0 28).toList == ([66, 65, 67, 75, 32, 55, 32, 49, 48, 50, 32, 49, 10, 114, 101, 116, 117, 114, 110, 32, 52, 32, 50, 10, 69, 78, 68, 32] : List UInt8)) = true := beq_iff_eq.mpr c18; have c18b1 : ((t168.extract 0 28).toList != ([66, 65, 67, 75, 32, 55, 32, 49, 48, 50, 32, 49, 10, 114, 101, 116, 117, 114, 110, 32, 52, 32, 50, 10, 69, 78, 68, 32] : List UInt8)) = false := bne_eq_false_iff_eq.mpr c18; clear c18
             by_cases c19 : t173 = 0
             ·
              rw [if_pos c19] at H
              have c19b0 : (t173 == 0) = true := beq_iff_eq.mpr c19; have c19b1 : (t173 != 0) = false := bne_eq_false_iff_eq.mpr c19; clear c19
              by_cases c20 : (t170.length : Int) = 1
              ·
               rw [if_pos c20] at H
               have c20b0 : ((t170.length : Int) == 1) = true := beq_iff_eq.mpr c20; have c20b1 : ((t170.length : Int) != 1) = false := bne_eq_false_iff_eq.mpr c20; clear c20
               by_cases c21 : 0 < (t170.length : Int)
               ·
                rw [if_pos c21] at H
                have c21b0 : decide (0 < (t170.length : Int)) = true := decide_eq_true c21; have c21b1 : decide (0 < t170.length) = true := decide_eq_true (by omega); clear c21
                by_cases c22 : 1 < (t154.length : Int)
                ·
                 rw [if_pos c22] at H
                 have c22b0 : decide (1 < (t154.length : Int)) = true := decide_eq_true c22; have c22b1 : decide (1 < t154.length) = true := decide_eq_true (by omega); clear c22
                 by_cases c23 : (((rd_T47 t170 0).f0) == ((rd_T47 t154 1).f0) && (((rd_T47 t170 0).f1) == ((rd_T47 t154 1).f1) && (((rd_T47 t170 0).f2) == ((rd_T47 t154 1).f2) && (((rd_T47 t170 0).f3) == ((rd_T47 t154 1).f3) && (((rd_T47 t170 0).f4) == ((rd_T47 t154 1).f4)))))) = true
                 ·
                  rw [if_pos c23] at H
                  have c23b0 : (((rd_T47 t170 0).f0) == ((rd_T47 t154 1).f0) && (((rd_T47 t170 0).f1) == ((rd_T47 t154 1).f1) && (((rd_T47 t170 0).f2) == ((rd_T47 t154 1).f2) && (((rd_T47 t170 0).f3) == ((rd_T47 t154 1).f3) && (((rd_T47 t170 0).f4) == ((rd_T47 t154 1).f4)))))) = true := c23
                  (try (have c23b1 : decide (((rd_T47 t170 0).f0) = ((rd_T47 t154 1).f0) && (((rd_T47 t170 0).f1) == ((rd_T47 t154 1).f1) && (((rd_T47 t170 0).f2) == ((rd_T47 t154 1).f2) && (((rd_T47 t170 0).f3) == ((rd_T47 t154 1).f3) && (((rd_T47 t170 0).f4) == ((rd_T47 t154 1).f4)))))) = true := by simpa using c23))
                  (try (have c23b2 : (((rd_T47 t170 0).f0) == ((rd_T47 t154 1).f0) && (((rd_T47 t170 0).f1) == ((rd_T47 t154 1).f1) && (((rd_T47 t170 0).f2) == ((rd_T47 t154 1).f2) && (((rd_T47 t170 0).f3) == ((rd_T47 t154 1).f3) && (((rd_T47 t170 0).f4) == ((rd_T47 t154 1).f4)))))) = true := by simpa using c23))
                  clear c23
                  by_cases c24 : t175 = 0
                  ·
                   rw [if_pos c24] at H
                   have c24b0 : (t175 == 0) = true := beq_iff_eq.mpr c24; have c24b1 : (t175 != 0) = false := bne_eq_false_iff_eq.mpr c24; clear c24; obtain rfl := Option.some.inj H
                   go_enter Tryz.func9, Tryz.ntmps9
                   go_wp2_with (first | (go_at_call 12; (with_reducible refine (annuitantlaw36_two.calls  t152 t153 t154 t157 t158 t159 _ A1.out).mono ?_); rintro e w25 ⟨v155, v160, rfl, ho0, ho1, hb⟩; have HO156 := Aside0.mk (Kd.R_lower ho0 (below_size zB)); have HO161 := Aside0.mk (Kd.R_lower ho1 (below_size zB)); replace HB := zBs hb; (try clear hb); (try clear hb2); (try clear hk); (try clear hi); (try clear ho0); (try clear ho1)) | ((with_reducible refine gate_dst (N := 1) rfl ?_); (try (refine gate_guard (by rfl) ?_; dsimp only)); refine box_event ?hg (N := 1) ?hd (cs := #[.int .i64 0, .int .i64 0, .slice none 0 0]) (t := 27) ?hr ?_; (case hd => rfl); (case hg => rfl); (case hr => first | (go_simp; done) | (go_simp; rfl)); intro gb162 hg w26 hbox hb; replace HO156 := Aside0.mk (Kd.R_below (zR HO156) hb); replace HO161 := Aside0.mk (Kd.R_below (zR HO161) hb); have BK162 := Aside0.mk (hbox); have GW162 := zG (w := w) hg; have GE162 := zG (w := w) hg; replace HB := zBs hb; clear hb hbox hg) | ((with_reducible refine gate_dst (N := 2) rfl ?_); (try (refine gate_guard (by rfl) ?_; dsimp only)); refine box_event ?hg (N := 2) ?hd (cs := #[.int .i64 0, .int .i64 0, .slice none 0 0]) (t := 30) ?hr ?_; (case hd => rfl); (case hg => rfl); (case hr => first | (go_simp; done) | (go_simp; rfl)); intro gb163 hg w27 hbox hb; replace HO156 := Aside0.mk (Kd.R_below (zR HO156) hb); replace HO161 := Aside0.mk (Kd.R_below (zR HO161) hb); have BK163 := Aside0.mk (hbox); have GW163 := zG (w := w) hg; have GE163 := zG (w := w) hg; replace HB := zBs hb; have NB162_163 := zN hg (zK BK162); have NB163_162 := zM hg (zK BK162); replace BK162 := zKb BK162 hb; clear hb hbox hg; have hnb28 := NB162_163.out; have hnc28 := NB163_162.out; obtain ⟨hcz29_0, hcz29_1, hcz29_2⟩ := zC3 BK162; obtain ⟨hfz29_0, hfz29_1, hfz29_2⟩ := zZ3 BK162; obtain ⟨Ao30, co30, eo30⟩ := Kd.R_slice HO156.out; subst eo30; obtain ⟨hcz31_0, hcz31_1, hcz31_2⟩ := zC3 BK163; obtain ⟨hfz31_0, hfz31_1, hfz31_2⟩ := zZ3 BK163; obtain ⟨Ao32, co32, eo32⟩ := Kd.R_slice HO161.out; subst eo32) | (go_at_call 26; (with_reducible refine (bank_Total.calls k t152 t153 _ _ t154 t164 t165 _ ?side1 ?side2 A2.out).mono ?_); (case side1 => refine (Kd.R_reads' (e := 47) (base := w.heap.size) (ok := fun k_ => True) (n := t154.length) (c := co30) ?_).2.2; exact (by (with_reducible repeat (first | apply Kd.R_alloc | apply Kd.R_drewN | apply Kd.R_drew)); exact (Kd.R_mono (Kd.R_mono (Kd.R_far (p := ⟨gb163, 2, none⟩) (Kd.R_far (p := ⟨gb163, 1, none⟩) (Kd.R_far (p := ⟨gb163, 0, none⟩) (Kd.R_far (p := ⟨gb162, 2, none⟩) (Kd.R_far (p := ⟨gb162, 1, none⟩) (Kd.R_far (p := ⟨gb162, 0, none⟩) (Kd.R_types (Kd.R_types HO156.out BK162.out (by decide)) BK163.out (by decide)) (fun _ hk => hk.1.2) (.int .i64 t152)) (fun _ hk => hk.1.2) (.int .i64 t153)) (fun _ hk => hk.1.2) (.slice Ao30 t154.length co30)) (fun _ hk => hk.2) (.int .i64 t157)) (fun _ hk => hk.2) (.int .i64 t158)) (fun _ hk => hk.2) (.slice Ao32 t159.length co32)) (fun _ h_ => h_.1)) (fun _ h_ => h_.1)))); (case side2 => exact (Kd.R_reads' HO156.out).2.1); rintro e w33 ⟨rfl, hb⟩; replace HO156 := Aside0.mk (Kd.R_below (by (with_reducible repeat (first | apply Kd.R_alloc | apply Kd.R_drewN | apply Kd.R_drew)); exact (Kd.R_mono (Kd.R_mono (Kd.R_far (p := ⟨gb163, 2, none⟩) (Kd.R_far (p := ⟨gb163, 1, none⟩) (Kd.R_far (p := ⟨gb163, 0, none⟩) (Kd.R_far (p := ⟨gb162, 2, none⟩) (Kd.R_far (p := ⟨gb162, 1, none⟩) (Kd.R_far (p := ⟨gb162, 0, none⟩) (Kd.R_types (Kd.R_types HO156.out BK162.out (by decide)) BK163.out (by decide)) (fun _ hk => hk.1.2) (.int .i64 t152)) (fun _ hk => hk.1.2) (.int .i64 t153)) (fun _ hk => hk.1.2) (.slice Ao30 t154.length co30)) (fun _ hk => hk.2) (.int .i64 t157)) (fun _ hk => hk.2) (.int .i64 t158)) (fun _ hk => hk.2) (.slice Ao32 t159.length co32)) (fun _ h_ => h_.1)) (fun _ h_ => h_.1))) hb); replace HO161 := Aside0.mk (Kd.R_below (by (with_reducible repeat (first | apply Kd.R_alloc | apply Kd.R_drewN | apply Kd.R_drew)); exact (Kd.R_mono (Kd.R_mono (Kd.R_far (p := ⟨gb163, 2, none⟩) (Kd.R_far (p := ⟨gb163, 1, none⟩) (Kd.R_far (p := ⟨gb163, 0, none⟩) (Kd.R_far (p := ⟨gb162, 2, none⟩) (Kd.R_far (p := ⟨gb162, 1, none⟩) (Kd.R_far (p := ⟨gb162, 0, none⟩) (Kd.R_types (Kd.R_types HO161.out BK162.out (by decide)) BK163.out (by decide)) (fun _ hk => hk.1.2) (.int .i64 t152)) (fun _ hk => hk.1.2) (.int .i64 t153)) (fun _ hk => hk.1.2) (.slice Ao30 t154.length co30)) (fun _ hk => hk.2) (.int .i64 t157)) (fun _ hk => hk.2) (.int .i64 t158)) (fun _ hk => hk.2) (.slice Ao32 t159.length co32)) (fun _ h_ => h_.1)) (fun _ h_ => h_.1))) hb); replace BK162 := Aside0.mk (blk_below (g := gb162) (o := .cells #[.int .i64 t152, .int .i64 t153, .slice Ao30 t154.length co30] 27 (0, 0)) (by (with_reducible repeat (first | apply blk_drewN | apply blk_drew | apply blk_alloc)); refine blk_far ?_ NB162_163.out _; (with_reducible repeat (first | apply blk_drewN | apply blk_drew | apply blk_alloc)); refine blk_far ?_ NB162_163.out _; (with_reducible repeat (first | apply blk_drewN | apply blk_drew | apply blk_alloc)); refine blk_far ?_ NB162_163.out _; (with_reducible repeat (first | apply blk_drewN | apply blk_drew | apply blk_alloc)); refine blk_put (cs := #[.int .i64 t152, .int .i64 t153, .slice none 0 0]) ?_ 2 _ rfl; (with_reducible repeat (first | apply blk_drewN | apply blk_drew | apply blk_alloc)); refine blk_put (cs := #[.int .i64 t152, .int .i64 0, .slice none 0 0]) ?_ 1 _ rfl; (with_reducible repeat (first | apply blk_drewN | apply blk_drew | apply blk_alloc)); refine blk_put (cs := #[.int .i64 0, .int .i64 0, .slice none 0 0]) ?_ 0 _ rfl; (with_reducible repeat (first | apply blk_drewN | apply blk_drew | apply blk_alloc)); exact BK162.out) hb); replace BK163 := Aside0.mk (blk_below (g := gb163) (o := .cells #[.int .i64 t157, .int .i64 t158, .slice Ao32 t159.length co32] 30 (0, 0)) (by (with_reducible repeat (first | apply blk_drewN | apply blk_drew | apply blk_alloc)); refine blk_put (cs := #[.int .i64 t157, .int .i64 t158, .slice none 0 0]) ?_ 2 _ rfl; (with_reducible repeat (first | apply blk_drewN | apply blk_drew | apply blk_alloc)); refine blk_put (cs := #[.int .i64 t157, .int .i64 0, .slice none 0 0]) ?_ 1 _ rfl; (with_reducible repeat (first | apply blk_drewN | apply blk_drew | apply blk_alloc)); refine blk_put (cs := #[.int .i64 0, .int .i64 0, .slice none 0 0]) ?_ 0 _ rfl; (with_reducible repeat (first | apply blk_drewN | apply blk_drew | apply blk_alloc)); refine blk_far ?_ NB163_162.out _; (with_reducible repeat (first | apply blk_drewN | apply blk_drew | apply blk_alloc)); refine blk_far ?_ NB163_162.out _; (with_reducible repeat (first | apply blk_drewN | apply blk_drew | apply blk_alloc)); refine blk_far ?_ NB163_162.out _; (with_reducible repeat (first | apply blk_drewN | apply blk_drew | apply blk_alloc)); exact BK163.out) hb); replace HB := zBs hb; (try clear hb); (try clear hb2); (try clear hk); (try clear hi); obtain ⟨hcz34_0, hcz34_1, hcz34_2⟩ := zC3 BK162; obtain ⟨hfz34_0, hfz34_1, hfz34_2⟩ := zZ3 BK162) | (go_at_call 23; (with_reducible refine (bank_Write.calls k t152 t153 _ _ t154 t166 t167 _ ?side1 ?side2 ?side3 A3.out).mono ?_); (case side1 => repeat (first | exact (Kd.R_reads' HO156.out).2.2 | (with_reducible refine Kd.C_alloc ?_ _) | (with_reducible refine Kd.C_drewN ?_ _) | (with_reducible refine Kd.C_drew ?_))); (case side2 => exact (Kd.R_reads' HO156.out).2.1); (case side3 => exact GG.below HG.out zB); rintro e w35 ⟨rfl, hb⟩; replace HO156 := Aside0.mk (Kd.R_below (zR HO156) hb); replace HO161 := Aside0.mk (Kd.R_below (zR HO161) hb); replace BK162 := zKb BK162 hb; replace BK163 := zKb BK163 hb; replace HB := zBs hb; (try clear hb); (try clear hb2); (try clear hk); (try clear hi); obtain ⟨hcz36_0, hcz36_1, hcz36_2⟩ := zC3 BK163; obtain ⟨hfz36_0, hfz36_1, hfz36_2⟩ := zZ3 BK163) | (go_at_call 29; (with_reducible refine (bank_WriteAnswer.calls k t157 t158 _ _ t159 t168 t169 _ ?side1 ?side2 ?side3 A4.out).mono ?_); (case side1 => repeat (first | exact (Kd.R_reads' HO161.out).2.2 | (with_reducible refine Kd.C_alloc ?_ _) | (with_reducible refine Kd.C_drewN ?_ _) | (with_reducible refine Kd.C_drew ?_))); (case side2 => exact (Kd.R_reads' HO161.out).2.1); (case side3 => exact GG.below HG.out zB); rintro e w37 ⟨rfl, hb⟩; replace HO156 := Aside0.mk (Kd.R_below (zR HO156) hb); replace HO161 := Aside0.mk (Kd.R_below (zR HO161) hb); replace BK162 := zKb BK162 hb; replace BK163 := zKb BK163 hb; replace HB := zBs hb; (try clear hb); (try clear hb2); (try clear hk); (try clear hi); obtain ⟨hcz38_0, hcz38_1, hcz38_2⟩ := zC3 BK162; obtain ⟨hfz38_0, hfz38_1, hfz38_2⟩ := zZ3 BK162; obtain ⟨hcz39_0, hcz39_1, hcz39_2⟩ := zC3 BK163; obtain ⟨hfz39_0, hfz39_1, hfz39_2⟩ := zZ3 BK163) | (go_at_call 31; (with_reducible refine (bank_Match.calls k t152 t153 _ _ t154 t157 t158 _ _ t159 t170 t173 _ ?side1 ?side2 ?side3 ?side4 A5.out).mono ?_); (case side1 => repeat (first | exact (Kd.R_reads' HO156.out).2.2 | (with_reducible refine Kd.C_alloc ?_ _) | (with_reducible refine Kd.C_drewN ?_ _) | (with_reducible refine Kd.C_drew ?_))); (case side2 => exact (Kd.R_reads' HO156.out).2.1); (case side3 => repeat (first | exact (Kd.R_reads' HO161.out).2.2 | (with_reducible refine Kd.C_alloc ?_ _) | (with_reducible refine Kd.C_drewN ?_ _) | (with_reducible refine Kd.C_drew ?_))); (case side4 => exact (Kd.R_reads' HO161.out).2.1); rintro e w40 ⟨v171, rfl, ho0, hb⟩; replace HO161 := Aside0.mk (Kd.R_below (zR HO161) hb); have HO172 := Aside0.mk (Kd.R_lower (Kd.R_new' ho0 (Kd.R_lt (zR HO156))) (below_size zB)); replace HO156 := Aside0.mk (Kd.R_elder' (zR HO156) (Kd.R_base ho0) hb); replace BK162 := zKb BK162 hb; replace BK163 := zKb BK163 hb; replace HB := zBs hb; (try clear hb); (try clear hb2); (try clear hk); (try clear hi); (try clear ho0)) | (go_at_call 23; (refine (bank_Write.calls k 1 0 _ _ ([] : List (S47)) t174 t175 _ ?side1 ?side2 ?side3 A6.out).mono ?_); (case side1 => exact Kd.C_nil _ _); (case side2 => exact Nat.le_refl _); (case side3 => exact GG.below HG.out zB); rintro e w41 ⟨rfl, hb⟩; replace HO156 := Aside0.mk (Kd.R_below (zR HO156) hb); replace HO161 := Aside0.mk (Kd.R_below (zR HO161) hb); replace HO172 := Aside0.mk (Kd.R_below (zR HO172) hb); replace BK162 := zKb BK162 hb; replace BK163 := zKb BK163 hb; replace HB := zBs hb; (try clear hb); (try clear hb2); (try clear hk); (try clear hi); obtain ⟨Ao42, co42, eo42⟩ := Kd.R_slice HO172.out; subst eo42; have p176 : 0 ≤ (0 : Int) := (by omega); have q176 : 0 < (t170.length : Int) := zD; obtain ⟨ad176, e176, hx176_0, hx176_1, hx176_2, hx176_3, hx176_4⟩ := at_T47 (Kd.R_reads' HO172.out).2.2 0 p176 q176; cases e176; have qi176 : (0 < t170.length) = True := eq_true (by omega); (try rw [show ((0 : Int)).toNat = 0 from rfl] at hx176_0); (try rw [show 0 * 5 = 0 from rfl] at hx176_0); (try rw [Addr.add_zero'] at hx176_0); (try rw [show ((0 : Int)).toNat = 0 from rfl] at hx176_1); (try rw [show 0 * 5 = 0 from rfl] at hx176_1); (try rw [Addr.add_zero'] at hx176_1); (try rw [show ((0 : Int)).toNat = 0 from rfl] at hx176_2); (try rw [show 0 * 5 = 0 from rfl] at hx176_2); (try rw [Addr.add_zero'] at hx176_2); (try rw [show ((0 : Int)).toNat = 0 from rfl] at hx176_3); (try rw [show 0 * 5 = 0 from rfl] at hx176_3); (try rw [Addr.add_zero'] at hx176_3); (try rw [show ((0 : Int)).toNat = 0 from rfl] at hx176_4); (try rw [show 0 * 5 = 0 from rfl] at hx176_4); (try rw [Addr.add_zero'] at hx176_4); replace p176 := eq_true p176; replace q176 := eq_true q176; obtain ⟨hcz43_0, hcz43_1, hcz43_2⟩ := zC3 BK162; obtain ⟨hfz43_0, hfz43_1, hfz43_2⟩ := zZ3 BK162; have p177 : 0 ≤ (1 : Int) := (by omega); have q177 : 1 < (t154.length : Int) := zD; obtain ⟨ad177, e177, hx177_0, hx177_1, hx177_2, hx177_3, hx177_4⟩ := at_T47 (Kd.R_reads' HO156.out).2.2 1 p177 q177; cases e177; (try simp only [show (1 : Int).toNat = 1 from rfl, Nat.reduceMul, Nat.reduceEqDiff, Go.Addr.add, ↓reduceIte] at hx177_0); (try simp only [show (1 : Int).toNat = 1 from rfl, Nat.reduceMul, Nat.reduceEqDiff, Go.Addr.add, ↓reduceIte] at hx177_1); (try simp only [show (1 : Int).toNat = 1 from rfl, Nat.reduceMul, Nat.reduceEqDiff, Go.Addr.add, ↓reduceIte] at hx177_2); (try simp only [show (1 : Int).toNat = 1 from rfl, Nat.reduceMul, Nat.reduceEqDiff, Go.Addr.add, ↓reduceIte] at hx177_3); (try simp only [show (1 : Int).toNat = 1 from rfl, Nat.reduceMul, Nat.reduceEqDiff, Go.Addr.add, ↓reduceIte] at hx177_4); have qi177 : (1 < t154.length) = True := eq_true (by omega); (try rw [show ((1 : Int)).toNat = 1 from rfl] at hx177_0); (try rw [show 1 * 5 = 5 from rfl] at hx177_0); (try rw [show ((1 : Int)).toNat = 1 from rfl] at hx177_1); (try rw [show 1 * 5 = 5 from rfl] at hx177_1); (try rw [show ((1 : Int)).toNat = 1 from rfl] at hx177_2); (try rw [show 1 * 5 = 5 from rfl] at hx177_2); (try rw [show ((1 : Int)).toNat = 1 from rfl] at hx177_3); (try rw [show 1 * 5 = 5 from rfl] at hx177_3); (try rw [show ((1 : Int)).toNat = 1 from rfl] at hx177_4); (try rw [show 1 * 5 = 5 from rfl] at hx177_4); replace p177 := eq_true p177; replace q177 := eq_true q177))
                   repeat (go_quiet (skip); try go_wp2)
                   go_ret
                   exact ⟨zE, zB⟩
                  ·
                   rw [if_neg c24] at H
                   exact absurd H (by simp)
                 ·
                  rw [if_neg c23] at H
                  exact absurd H (by simp)
                ·
                 rw [if_neg c22] at H
                 exact absurd H (by simp)
               ·
                rw [if_neg c21] at H
                exact absurd H (by simp)
              ·
               rw [if_neg c20] at H
               exact absurd H (by simp)
             ·
              rw [if_neg c19] at H
              exact absurd H (by simp)
            ·
             rw [if_neg c18] at H
             have c18b0 : ((t168.extract 0 28).toList == ([66, 65, 67, 75, 32, 55, 32, 49, 48, 50, 32, 49, 10, 114, 101, 116, 117, 114, 110, 32, 52, 32, 50, 10, 69, 78, 68, 32] : List UInt8)) = false := beq_eq_false_iff_ne.mpr c18; have c18b1 : ((t168.extract 0 28).toList != ([66, 65, 67, 75, 32, 55, 32, 49, 48, 50, 32, 49, 10, 114, 101, 116, 117, 114, 110, 32, 52, 32, 50, 10, 69, 78, 68, 32] : List UInt8)) = true := bne_iff_ne.mpr c18; obtain rfl := Option.some.inj H
             go_enter Tryz.func9, Tryz.ntmps9
             go_wp2_with (first | (go_at_call 12; (with_reducible refine (annuitantlaw36_two.calls  t152 t153 t154 t157 t158 t159 _ A1.out).mono ?_); rintro e w44 ⟨v155, v160, rfl, ho0, ho1, hb⟩; have HO156 := Aside0.mk (Kd.R_lower ho0 (below_size zB)); have HO161 := Aside0.mk (Kd.R_lower ho1 (below_size zB)); replace HB := zBs hb; (try clear hb); (try clear hb2); (try clear hk); (try clear hi); (try clear ho0); (try clear ho1)) | ((with_reducible refine gate_dst (N := 1) rfl ?_); (try (refine gate_guard (by rfl) ?_; dsimp only)); refine box_event ?hg (N := 1) ?hd (cs := #[.int .i64 0, .int .i64 0, .slice none 0 0]) (t := 27) ?hr ?_; (case hd => rfl); (case hg => rfl); (case hr => first | (go_simp; done) | (go_simp; rfl)); intro gb162 hg w45 hbox hb; replace HO156 := Aside0.mk (Kd.R_below (zR HO156) hb); replace HO161 := Aside0.mk (Kd.R_below (zR HO161) hb); have BK162 := Aside0.mk (hbox); have GW162 := zG (w := w) hg; have GE162 := zG (w := w) hg; replace HB := zBs hb; clear hb hbox hg) | ((with_reducible refine gate_dst (N := 2) rfl ?_); (try (refine gate_guard (by rfl) ?_; dsimp only)); refine box_event ?hg (N := 2) ?hd (cs := #[.int .i64 0, .int .i64 0, .slice none 0 0]) (t := 30) ?hr ?_; (case hd => rfl); (case hg => rfl); (case hr => first | (go_simp; done) | (go_simp; rfl)); intro gb163 hg w46 hbox hb; replace HO156 := Aside0.mk (Kd.R_below (zR HO156) hb); replace HO161 := Aside0.mk (Kd.R_below (zR HO161) hb); have BK163 := Aside0.mk (hbox); have GW163 := zG (w := w) hg; have GE163 := zG (w := w) hg; replace HB := zBs hb; have NB162_163 := zN hg (zK BK162); have NB163_162 := zM hg (zK BK162); replace BK162 := zKb BK162 hb; clear hb hbox hg; have hnb47 := NB162_163.out; have hnc47 := NB163_162.out; obtain ⟨hcz48_0, hcz48_1, hcz48_2⟩ := zC3 BK162; obtain ⟨hfz48_0, hfz48_1, hfz48_2⟩ := zZ3 BK162; obtain ⟨Ao49, co49, eo49⟩ := Kd.R_slice HO156.out; subst eo49; obtain ⟨hcz50_0, hcz50_1, hcz50_2⟩ := zC3 BK163; obtain ⟨hfz50_0, hfz50_1, hfz50_2⟩ := zZ3 BK163; obtain ⟨Ao51, co51, eo51⟩ := Kd.R_slice HO161.out; subst eo51) | (go_at_call 26; (with_reducible refine (bank_Total.calls k t152 t153 _ _ t154 t164 t165 _ ?side1 ?side2 A2.out).mono ?_); (case side1 => refine (Kd.R_reads' (e := 47) (base := w.heap.size) (ok := fun k_ => True) (n := t154.length) (c := co49) ?_).2.2; exact (by (with_reducible repeat (first | apply Kd.R_alloc | apply Kd.R_drewN | apply Kd.R_drew)); exact (Kd.R_mono (Kd.R_mono (Kd.R_far (p := ⟨gb163, 2, none⟩) (Kd.R_far (p := ⟨gb163, 1, none⟩) (Kd.R_far (p := ⟨gb163, 0, none⟩) (Kd.R_far (p := ⟨gb162, 2, none⟩) (Kd.R_far (p := ⟨gb162, 1, none⟩) (Kd.R_far (p := ⟨gb162, 0, none⟩) (Kd.R_types (Kd.R_types HO156.out BK162.out (by decide)) BK163.out (by decide)) (fun _ hk => hk.1.2) (.int .i64 t152)) (fun _ hk => hk.1.2) (.int .i64 t153)) (fun _ hk => hk.1.2) (.slice Ao49 t154.length co49)) (fun _ hk => hk.2) (.int .i64 t157)) (fun _ hk => hk.2) (.int .i64 t158)) (fun _ hk => hk.2) (.slice Ao51 t159.length co51)) (fun _ h_ => h_.1)) (fun _ h_ => h_.1)))); (case side2 => exact (Kd.R_reads' HO156.out).2.1); rintro e w52 ⟨rfl, hb⟩; replace HO156 := Aside0.mk (Kd.R_below (by (with_reducible repeat (first | apply Kd.R_alloc | apply Kd.R_drewN | apply Kd.R_drew)); exact (Kd.R_mono (Kd.R_mono (Kd.R_far (p := ⟨gb163, 2, none⟩) (Kd.R_far (p := ⟨gb163, 1, none⟩) (Kd.R_far (p := ⟨gb163, 0, none⟩) (Kd.R_far (p := ⟨gb162, 2, none⟩) (Kd.R_far (p := ⟨gb162, 1, none⟩) (Kd.R_far (p := ⟨gb162, 0, none⟩) (Kd.R_types (Kd.R_types HO156.out BK162.out (by decide)) BK163.out (by decide)) (fun _ hk => hk.1.2) (.int .i64 t152)) (fun _ hk => hk.1.2) (.int .i64 t153)) (fun _ hk => hk.1.2) (.slice Ao49 t154.length co49)) (fun _ hk => hk.2) (.int .i64 t157)) (fun _ hk => hk.2) (.int .i64 t158)) (fun _ hk => hk.2) (.slice Ao51 t159.length co51)) (fun _ h_ => h_.1)) (fun _ h_ => h_.1))) hb); replace HO161 := Aside0.mk (Kd.R_below (by (with_reducible repeat (first | apply Kd.R_alloc | apply Kd.R_drewN | apply Kd.R_drew)); exact (Kd.R_mono (Kd.R_mono (Kd.R_far (p := ⟨gb163, 2, none⟩) (Kd.R_far (p := ⟨gb163, 1, none⟩) (Kd.R_far (p := ⟨gb163, 0, none⟩) (Kd.R_far (p := ⟨gb162, 2, none⟩) (Kd.R_far (p := ⟨gb162, 1, none⟩) (Kd.R_far (p := ⟨gb162, 0, none⟩) (Kd.R_types (Kd.R_types HO161.out BK162.out (by decide)) BK163.out (by decide)) (fun _ hk => hk.1.2) (.int .i64 t152)) (fun _ hk => hk.1.2) (.int .i64 t153)) (fun _ hk => hk.1.2) (.slice Ao49 t154.length co49)) (fun _ hk => hk.2) (.int .i64 t157)) (fun _ hk => hk.2) (.int .i64 t158)) (fun _ hk => hk.2) (.slice Ao51 t159.length co51)) (fun _ h_ => h_.1)) (fun _ h_ => h_.1))) hb); replace BK162 := Aside0.mk (blk_below (g := gb162) (o := .cells #[.int .i64 t152, .int .i64 t153, .slice Ao49 t154.length co49] 27 (0, 0)) (by (with_reducible repeat (first | apply blk_drewN | apply blk_drew | apply blk_alloc)); refine blk_far ?_ NB162_163.out _; (with_reducible repeat (first | apply blk_drewN | apply blk_drew | apply blk_alloc)); refine blk_far ?_ NB162_163.out _; (with_reducible repeat (first | apply blk_drewN | apply blk_drew | apply blk_alloc)); refine blk_far ?_ NB162_163.out _; (with_reducible repeat (first | apply blk_drewN | apply blk_drew | apply blk_alloc)); refine blk_put (cs := #[.int .i64 t152, .int .i64 t153, .slice none 0 0]) ?_ 2 _ rfl; (with_reducible repeat (first | apply blk_drewN | apply blk_drew | apply blk_alloc)); refine blk_put (cs := #[.int .i64 t152, .int .i64 0, .slice none 0 0]) ?_ 1 _ rfl; (with_reducible repeat (first | apply blk_drewN | apply blk_drew | apply blk_alloc)); refine blk_put (cs := #[.int .i64 0, .int .i64 0, .slice none 0 0]) ?_ 0 _ rfl; (with_reducible repeat (first | apply blk_drewN | apply blk_drew | apply blk_alloc)); exact BK162.out) hb); replace BK163 := Aside0.mk (blk_below (g := gb163) (o := .cells #[.int .i64 t157, .int .i64 t158, .slice Ao51 t159.length co51] 30 (0, 0)) (by (with_reducible repeat (first | apply blk_drewN | apply blk_drew | apply blk_alloc)); refine blk_put (cs := #[.int .i64 t157, .int .i64 t158, .slice none 0 0]) ?_ 2 _ rfl; (with_reducible repeat (first | apply blk_drewN | apply blk_drew | apply blk_alloc)); refine blk_put (cs := #[.int .i64 t157, .int .i64 0, .slice none 0 0]) ?_ 1 _ rfl; (with_reducible repeat (first | apply blk_drewN | apply blk_drew | apply blk_alloc)); refine blk_put (cs := #[.int .i64 0, .int .i64 0, .slice none 0 0]) ?_ 0 _ rfl; (with_reducible repeat (first | apply blk_drewN | apply blk_drew | apply blk_alloc)); refine blk_far ?_ NB163_162.out _; (with_reducible repeat (first | apply blk_drewN | apply blk_drew | apply blk_alloc)); refine blk_far ?_ NB163_162.out _; (with_reducible repeat (first | apply blk_drewN | apply blk_drew | apply blk_alloc)); refine blk_far ?_ NB163_162.out _; (with_reducible repeat (first | apply blk_drewN | apply blk_drew | apply blk_alloc)); exact BK163.out) hb); replace HB := zBs hb; (try clear hb); (try clear hb2); (try clear hk); (try clear hi); obtain ⟨hcz53_0, hcz53_1, hcz53_2⟩ := zC3 BK162; obtain ⟨hfz53_0, hfz53_1, hfz53_2⟩ := zZ3 BK162) | (go_at_call 23; (with_reducible refine (bank_Write.calls k t152 t153 _ _ t154 t166 t167 _ ?side1 ?side2 ?side3 A3.out).mono ?_); (case side1 => repeat (first | exact (Kd.R_reads' HO156.out).2.2 | (with_reducible refine Kd.C_alloc ?_ _) | (with_reducible refine Kd.C_drewN ?_ _) | (with_reducible refine Kd.C_drew ?_))); (case side2 => exact (Kd.R_reads' HO156.out).2.1); (case side3 => exact GG.below HG.out zB); rintro e w54 ⟨rfl, hb⟩; replace HO156 := Aside0.mk (Kd.R_below (zR HO156) hb); replace HO161 := Aside0.mk (Kd.R_below (zR HO161) hb); replace BK162 := zKb BK162 hb; replace BK163 := zKb BK163 hb; replace HB := zBs hb; (try clear hb); (try clear hb2); (try clear hk); (try clear hi); obtain ⟨hcz55_0, hcz55_1, hcz55_2⟩ := zC3 BK163; obtain ⟨hfz55_0, hfz55_1, hfz55_2⟩ := zZ3 BK163) | (go_at_call 29; (with_reducible refine (bank_WriteAnswer.calls k t157 t158 _ _ t159 t168 t169 _ ?side1 ?side2 ?side3 A4.out).mono ?_); (case side1 => repeat (first | exact (Kd.R_reads' HO161.out).2.2 | (with_reducible refine Kd.C_alloc ?_ _) | (with_reducible refine Kd.C_drewN ?_ _) | (with_reducible refine Kd.C_drew ?_))); (case side2 => exact (Kd.R_reads' HO161.out).2.1); (case side3 => exact GG.below HG.out zB); rintro e w56 ⟨rfl, hb⟩; replace HO156 := Aside0.mk (Kd.R_below (zR HO156) hb); replace HO161 := Aside0.mk (Kd.R_below (zR HO161) hb); replace BK162 := zKb BK162 hb; replace BK163 := zKb BK163 hb; replace HB := zBs hb; (try clear hb); (try clear hb2); (try clear hk); (try clear hi); obtain ⟨hcz57_0, hcz57_1, hcz57_2⟩ := zC3 BK162; obtain ⟨hfz57_0, hfz57_1, hfz57_2⟩ := zZ3 BK162; obtain ⟨hcz58_0, hcz58_1, hcz58_2⟩ := zC3 BK163; obtain ⟨hfz58_0, hfz58_1, hfz58_2⟩ := zZ3 BK163) | (go_at_call 31; (with_reducible refine (bank_Match.calls k t152 t153 _ _ t154 t157 t158 _ _ t159 t170 t173 _ ?side1 ?side2 ?side3 ?side4 A5.out).mono ?_); (case side1 => repeat (first | exact (Kd.R_reads' HO156.out).2.2 | (with_reducible refine Kd.C_alloc ?_ _) | (with_reducible refine Kd.C_drewN ?_ _) | (with_reducible refine Kd.C_drew ?_))); (case side2 => exact (Kd.R_reads' HO156.out).2.1); (case side3 => repeat (first | exact (Kd.R_reads' HO161.out).2.2 | (with_reducible refine Kd.C_alloc ?_ _) | (with_reducible refine Kd.C_drewN ?_ _) | (with_reducible refine Kd.C_drew ?_))); (case side4 => exact (Kd.R_reads' HO161.out).2.1); rintro e w59 ⟨v171, rfl, ho0, hb⟩; replace HO161 := Aside0.mk (Kd.R_below (zR HO161) hb); have HO172 := Aside0.mk (Kd.R_lower (Kd.R_new' ho0 (Kd.R_lt (zR HO156))) (below_size zB)); replace HO156 := Aside0.mk (Kd.R_elder' (zR HO156) (Kd.R_base ho0) hb); replace BK162 := zKb BK162 hb; replace BK163 := zKb BK163 hb; replace HB := zBs hb; (try clear hb); (try clear hb2); (try clear hk); (try clear hi); (try clear ho0)) | (go_at_call 23; (refine (bank_Write.calls k 1 0 _ _ ([] : List (S47)) t174 t175 _ ?side1 ?side2 ?side3 A6.out).mono ?_); (case side1 => exact Kd.C_nil _ _); (case side2 => exact Nat.le_refl _); (case side3 => exact GG.below HG.out zB); rintro e w60 ⟨rfl, hb⟩; replace HO156 := Aside0.mk (Kd.R_below (zR HO156) hb); replace HO161 := Aside0.mk (Kd.R_below (zR HO161) hb); replace HO172 := Aside0.mk (Kd.R_below (zR HO172) hb); replace BK162 := zKb BK162 hb; replace BK163 := zKb BK163 hb; replace HB := zBs hb; (try clear hb); (try clear hb2); (try clear hk); (try clear hi)))
             repeat (go_quiet (skip); try go_wp2)
             go_ret
             exact ⟨zE, zB⟩
           ·
            rw [if_neg c17] at H
            exact absurd H (by simp)
          ·
           rw [if_neg c16] at H
           exact absurd H (by simp)
         ·
          rw [if_neg c15] at H
          exact absurd H (by simp)
        ·
         rw [if_neg c14] at H
         exact absurd H (by simp)
       ·
        rw [if_neg c13] at H
        exact absurd H (by simp)
      ·
       rw [if_neg c12] at H
       exact absurd H (by simp)
     ·
      rw [if_neg c11] at H
      exact absurd H (by simp)
    ·
     rw [if_neg c10] at H
     exact absurd H (by simp)
   ·
    rw [if_neg c9] at H
    exact absurd H (by simp)
  ·
   rw [if_neg c8] at H
   exact absurd H (by simp)
 ·
  rw [if_neg c7] at H
  exact absurd H (by simp)
end Go.Proofs.YtndojpcjhkncgaaGreatDoor.Q
end

section
namespace Go.Proofs.YtndojpcjhkncgaaGreatDoor.Q
open Go.RowKit Go.Proofs.YtndojpcjhkncgaaGreatDoorW.PrintWords
set_option linter.unusedVariables false
set_option linter.unusedSimpArgs false
def exL : List S47 := [⟨3, 55, 1000, 200, 800⟩, ⟨4, 56, 50, 0, 50⟩]
def exR : List S49 := [⟨4, 2⟩]
theorem ex_valid : validB 7 100 exL = true := by decide
theorem ex_right : rightB 7 102 exR = true := by decide
theorem ex_nil : validB 1 0 [] = true := by decide
theorem exW : writeS 7 100 exL = (B (fileText 7 100 exL), 0) := by unfold writeS; rw [if_pos ex_valid]
theorem exA : answerS 7 102 exR = (B (answerText 7 102 exR), 0) := by unfold answerS; rw [if_pos ex_right]
theorem exN : writeS 1 0 [] = (B (fileText 1 0 []), 0) := by unfold writeS; rw [if_pos ex_nil]
theorem exM : matchS 7 100 exL 7 102 exR = ([⟨4, 56, 50, 0, 50⟩], 0) := by
  unfold matchS
  rw [if_pos ⟨ex_valid, ex_right⟩, if_pos (by decide)]
  rfl
theorem txW : fileL 7 100 exL (netSum exL) = [80, 65, 89, 32, 55, 32, 49, 48, 48, 32, 50, 32, 56, 53, 48, 10, 111, 114, 100, 101, 114, 32, 51, 32, 53, 53, 32, 49, 48, 48, 48, 32, 50, 48, 48, 32, 56, 48, 48, 10, 111, 114, 100, 101, 114, 32, 52, 32, 53, 54, 32, 53, 48, 32, 48, 32, 53, 48, 10] := by
  simp [fileL, orderL, lineL, numsL, exL, netSum, Lib.itoa, dec_big, dec_small]
theorem txA : answerL 7 102 exR = [66, 65, 67, 75, 32, 55, 32, 49, 48, 50, 32, 49, 10, 114, 101, 116, 117, 114, 110, 32, 52, 32, 50, 10] := by
  simp [answerL, returnL, lineL, numsL, exR, Lib.itoa, dec_big, dec_small]
theorem txN : fileL 1 0 [] (netSum []) = [80, 65, 89, 32, 49, 32, 48, 32, 48, 32, 48, 10] := by
  simp [fileL, orderL, lineL, numsL, netSum, Lib.itoa, dec_big, dec_small]
theorem txNN : fileText 1 0 [] = [80, 65, 89, 32, 49, 32, 48, 32, 48, 32, 48, 10, 69, 78, 68, 32, 48, 48, 48, 48, 48, 50, 51, 53, 32, 48, 48, 48, 48, 48, 98, 100, 97, 10] := by
  unfold fileText
  rw [txN]
  unfold endL
  rw [← hexR_8 _ (by decide), ← hexR_8 _ (by decide)]
  decide
theorem B_take (l : List UInt8) (n : Nat) : ((B l).extract 0 n).toList = l.take n := by
  rw [ByteArray.toList_eq, ByteArray.data_extract]
  simp [B]
theorem endL_cons (l : List UInt8) : ∃ r, endL l = [69, 78, 68, 32] ++ r := ⟨_, by unfold endL; simp only [List.append_assoc]; rfl⟩
theorem awake_ev : Ev (fun k => annuitantlaw36_awake.f k) true := by
  unfold annuitantlaw36_awake.f
  refine Ev.const (show annuitantlaw36_two.f = some _ from rfl) ?_
  refine Ev.bind (r := true) (Total_ev 7 100 exL (by decide)).1 ?_
  refine Ev.bind (Write_ev 7 100 exL (by decide)) ?_
  refine Ev.bind (WriteAnswer_ev 7 102 exR (by decide)) ?_
  refine Ev.bind (Match_ev 7 100 exL 7 102 exR (by decide) (by decide)) ?_
  refine Ev.bind (Write_ev 1 0 [] (by decide)) ?_
  rw [exW, exA, exN, exM]
  have ht : totalS 7 100 exL = (850, 0) := by decide
  rw [ht]
  obtain ⟨r, hr⟩ := endL_cons (fileL 7 100 exL (netSum exL))
  obtain ⟨r', hr'⟩ := endL_cons (answerL 7 102 exR)
  have h81 : ((B (fileText 7 100 exL)).size : Int) = 81 := by
    rw [B_size]; unfold fileText; rw [List.length_append, endL_len, txW]; rfl
  have h46 : ((B (answerText 7 102 exR)).size : Int) = 46 := by
    rw [B_size]; unfold answerText; rw [List.length_append, endL_len, txA]; rfl
  refine Ev.pos rfl (Ev.pos rfl (Ev.pos rfl (Ev.pos rfl (Ev.pos h81 (Ev.pos h46 (Ev.pos (by omega) (Ev.pos (by rw [h81]; omega) ?_)))))))
  refine Ev.pos (by rw [B_take]; unfold fileText; rw [hr, txW]; rfl) (Ev.pos (by omega) (Ev.pos (by rw [h46]; omega) ?_))
  refine Ev.pos (by rw [B_take]; unfold answerText; rw [hr', txA]; rfl) (Ev.pos rfl (Ev.pos rfl (Ev.pos (by decide) (Ev.pos (by decide) (Ev.pos (by decide) (Ev.pos rfl ?_))))))
  exact Ev.ret (by rw [B_list, txNN]; decide)
end Go.Proofs.YtndojpcjhkncgaaGreatDoor.Q
end

section
namespace Go.Proofs.YtndojpcjhkncgaaGreatDoor.Q
open Go.RowKit Go.Proofs.YtndojpcjhkncgaaGreatDoorW.PrintWords Go.Proofs.YtndojpcjhkncgaaGreatDoorW.PrintLast Go.Proofs.YtndojpcjhkncgaaGreatDoorW.PrintMore
attribute [local go_sem] max2_int min2_int max_two min_two max_three min_three max_four min_four   -- for this text's walks alone
set_option linter.unusedVariables false
set_option linter.unusedSimpArgs false
def annuitantlaw36_plain.f (a0_0 : Int) (a0_1 : Int) (l0_2 : List (S47)) : Option (Int × Int × (List (S47))) := some (a0_0, a0_1, l0_2)
set_option maxHeartbeats 8000000 in
set_option maxRecDepth 100000 in
theorem annuitantlaw36_plain.calls (a0_0 : Int) (a0_1 : Int) (P0_2_ : Nat → Prop) (A0_2 : Option Addr) (c0_2 : Nat) (l0_2 : List (S47)) (r1 : Int) (r2 : Int) (r3 : List (S47)) (w : World) (hs0_2 : Kd.V k47 47 w w.heap.size (fun k_ => P0_2_ k_) (.slice A0_2 l0_2.length c0_2) l0_2) (h : annuitantlaw36_plain.f a0_0 a0_1 l0_2 = some (r1, r2, r3)) :
  Calls Tryz.prog 14 #[.agg #[.int .i64 a0_0, .int .i64 a0_1, .slice A0_2 l0_2.length c0_2]] w fun e w' => ∃ v2_ : Value, e = .returned (.agg #[.int .i64 r1, .int .i64 r2, v2_]) ∧ Kd.V k47 47 w' w.heap.size (fun k_ => (P0_2_ k_ ∨ w.heap.size ≤ k_)) v2_ r3 ∧ Below w.heap.size w w' := by
 have hu27 := Tryz.underlying27; have hu36 := Tryz.underlying36; have HO0_2 := Aside0.mk (show Kd.V k47 47 w w.heap.size (fun k_ => (P0_2_ k_ ∨ w.heap.size ≤ k_)) (.slice A0_2 l0_2.length c0_2) l0_2 from Kd.V_mono hs0_2 (fun k_ hk => .inl hk)); have HB := Aside0.mk (Below.refl w.heap.size w); have H : (some (a0_0, a0_1, l0_2)) = some (r1, r2, r3) := h; clear h
 simp only [Option.some.injEq, Prod.mk.injEq] at H
 obtain ⟨rfl, rfl, rfl⟩ := H
 go_enter Tryz.func14, Tryz.ntmps14
 go_wp2_with (first | ((with_reducible refine gate_dst (N := 1) rfl ?_); refine box_event ?hg (N := 1) ?hd (cs := #[.int .i64 a0_0, .int .i64 a0_1, .slice A0_2 l0_2.length c0_2]) (t := 27) ?hr ?_; (case hd => rfl); (case hg => rfl); (case hr => first | (go_simp; done) | (go_simp; rfl)); intro gb178 hg w2 hbox hb; replace HO0_2 := Aside0.mk (Kd.V_below (Kd.V_elderB (zV HO0_2) gb178 (Nat.le_of_eq hg.symm)) hb); have BK178 := Aside0.mk (hbox); have GW178 := zG (w := w) hg; have GE178 := zG (w := w) hg; replace HB := zBs hb; clear hb hbox hg) | ((with_reducible refine gate_dst (N := 2) rfl ?_); refine box_event ?hg (N := 2) ?hd (cs := #[.int .i64 0, .int .i64 0, .slice none 0 0]) (t := 36) ?hr ?_; (case hd => rfl); (case hg => rfl); (case hr => first | (go_simp; done) | (go_simp; rfl)); intro gb179 hg w3 hbox hb; replace HO0_2 := Aside0.mk (Kd.V_below (Kd.V_elderB (zV HO0_2) gb179 (Nat.le_of_eq hg.symm)) hb); have BK179 := Aside0.mk (hbox); have GW179 := zG (w := w) hg; have GE179 := zG (w := w) hg; replace HB := zBs hb; have NB178_179 := zN hg (zK BK178); have NB179_178 := zM hg (zK BK178); replace BK178 := zKb BK178 hb; clear hb hbox hg; have hnb4 := NB178_179.out; have hnc4 := NB179_178.out; obtain ⟨hcz5_0, hcz5_1, hcz5_2⟩ := zC3 BK178; obtain ⟨hfz5_0, hfz5_1, hfz5_2⟩ := zZ3 BK178; obtain ⟨hcz6_0, hcz6_1, hcz6_2⟩ := zC3 BK179; obtain ⟨hfz6_0, hfz6_1, hfz6_2⟩ := zZ3 BK179))
 refine bodyPost_ret (results_cell_row rfl _ _ gb179 36 #[.int .i64 a0_0, .int .i64 a0_1, .slice A0_2 l0_2.length c0_2] (0, 0) _ rfl (by (with_reducible repeat (first | apply blk_drewN | apply blk_drew | apply blk_alloc)); refine blk_put (cs := #[.int .i64 a0_0, .int .i64 a0_1, .slice none 0 0]) ?_ 2 _ rfl; (with_reducible repeat (first | apply blk_drewN | apply blk_drew | apply blk_alloc)); refine blk_put (cs := #[.int .i64 a0_0, .int .i64 0, .slice none 0 0]) ?_ 1 _ rfl; (with_reducible repeat (first | apply blk_drewN | apply blk_drew | apply blk_alloc)); refine blk_put (cs := #[.int .i64 0, .int .i64 0, .slice none 0 0]) ?_ 0 _ rfl; (with_reducible repeat (first | apply blk_drewN | apply blk_drew | apply blk_alloc)); exact BK179.out) Tryz.underlying36 rfl (by kernel_rfl)) rfl ?_
 exact ⟨_, zE, by (with_reducible repeat (first | apply Kd.V_alloc | apply Kd.V_drewN | apply Kd.V_drew)); exact Kd.V_mono (Kd.V_far (p := ⟨gb179, 2, none⟩) (Kd.V_far (p := ⟨gb179, 1, none⟩) (Kd.V_far (p := ⟨gb179, 0, none⟩) (Kd.V_mono HO0_2.out (fun k_ hk => (⟨hk, hk.2⟩ : _ ∧ k_ ≠ gb179))) (fun _ hk => hk.2) (.int .i64 a0_0)) (fun _ hk => hk.2) (.int .i64 a0_1)) (fun _ hk => hk.2) (.slice A0_2 l0_2.length c0_2)) (fun _ hk => hk.1.1.1), zB⟩
end Go.Proofs.YtndojpcjhkncgaaGreatDoor.Q
end

section
namespace Go.Proofs.YtndojpcjhkncgaaGreatDoor.Q
open Go.RowKit Go.Proofs.YtndojpcjhkncgaaGreatDoorW.PrintWords Go.Proofs.YtndojpcjhkncgaaGreatDoorW.PrintLast Go.Proofs.YtndojpcjhkncgaaGreatDoorW.PrintMore
attribute [local go_sem] max2_int min2_int max_two min_two max_three min_three max_four min_four   -- for this text's walks alone
set_option linter.unusedVariables false
set_option linter.unusedSimpArgs false
def annuitantlaw36_reads.f (k : Nat) (a0 : ByteArray) : Option (Bool) := (bank_Read.f k a0).bind fun bt359 => ((annuitantref36_Read.f k a0).bind fun bt366 => ((bank_ReadAnswer.f k a0).bind fun bt373 => ((annuitantref36_ReadAnswer.f k a0).bind fun bt380 => (if bt359.2.2.2 = bt366.2.2.2 then (if bt373.2.2.2 = bt380.2.2.2 then ((annuitantlaw36_plain.f bt359.1 bt359.2.1 bt359.2.2.1).bind fun bt387 => ((annuitantlaw36_sameFile.f k bt387.1 bt387.2.1 bt387.2.2 bt366.1 bt366.2.1 bt366.2.2.1).bind fun t392 => (if t392 = true then ((annuitantlaw36_old.f k bt373.1 bt373.2.1 bt373.2.2.1).bind fun bt393 => ((annuitantlaw36_sameAnswer.f k bt393.1 bt393.2.1 bt393.2.2 bt380.1 bt380.2.1 bt380.2.2.1).bind fun t398 => (some t398))) else (none)))) else (none)) else (none)))))
def annuitantlaw36_reads.T5 : Bool × List (List Nat × List Nat) := (true, [([], []), ([], []), ([0, 1], [0, 1]), ([2], [2]), ([3], [3]), ([3], [3]), ([4, 5, 3], [3, 4, 5]), ([3, 6], [3, 6]), ([7, 3], [7]), ([8], [8]), ([9, 8, 8], [8, 9]), ([8], [8]), ([10, 11, 10, 8], [8, 10, 11]), ([8, 12], [8, 12]), ([13, 12], [13]), ([14], [14]), ([15, 14, 14], [14, 15]), ([14], [14]), ([16, 17, 16, 14], [14, 16, 17]), ([14, 18], [14, 18]), ([19, 18, 0, 1, 2, 3, 4, 5, 6, 7, 8, 9, 10, 11, 12, 13, 14, 15, 16, 17, 18, 19], [19])])
def annuitantlaw36_reads.B5 : List Nat := [0, 0, 3, 7, 15, 15, 63, 127, 255, 511, 1023, 511, 4095, 8191, 16383, 32767, 65535, 32767, 262143, 524287, 1048575]
theorem annuitantlaw36_reads.tab5 : rtab .any (opsOf Tryz.f10 5) = annuitantlaw36_reads.T5 := by kernel_rfl
theorem annuitantlaw36_reads.bits5 : waitsOk annuitantlaw36_reads.T5.2 annuitantlaw36_reads.B5 = true := by kernel_rfl
abbrev zbay := true
abbrev zban := false
abbrev zbaz0 : Array Bool := #[zban,zban,zban,zban,zban,zban,zban,zban,zban,zban,zban,zban,zban,zban,zban,zban,zban,zban,zban,zban,zban]
abbrev zbaz1 : Array Bool := #[zbay,zban,zban,zban,zban,zban,zban,zban,zban,zban,zban,zban,zban,zban,zban,zban,zban,zban,zban,zban,zban]
abbrev zbaz2 : Array Bool := #[zbay,zbay,zban,zban,zban,zban,zban,zban,zban,zban,zban,zban,zban,zban,zban,zban,zban,zban,zban,zban,zban]
abbrev zbaz3 : Array Bool := #[zbay,zbay,zbay,zban,zban,zban,zban,zban,zban,zban,zban,zban,zban,zban,zban,zban,zban,zban,zban,zban,zban]
abbrev zbaz4 : Array Bool := #[zbay,zbay,zbay,zbay,zban,zban,zban,zban,zban,zban,zban,zban,zban,zban,zban,zban,zban,zban,zban,zban,zban]
abbrev zbaz5 : Array Bool := #[zbay,zbay,zbay,zbay,zbay,zban,zban,zban,zban,zban,zban,zban,zban,zban,zban,zban,zban,zban,zban,zban,zban]
abbrev zbaz6 : Array Bool := #[zbay,zbay,zbay,zbay,zbay,zbay,zban,zban,zban,zban,zban,zban,zban,zban,zban,zban,zban,zban,zban,zban,zban]
abbrev zbaz7 : Array Bool := #[zbay,zbay,zbay,zbay,zbay,zbay,zbay,zban,zban,zban,zban,zban,zban,zban,zban,zban,zban,zban,zban,zban,zban]
abbrev zbaz8 : Array Bool := #[zbay,zbay,zbay,zbay,zbay,zbay,zbay,zbay,zban,zban,zban,zban,zban,zban,zban,zban,zban,zban,zban,zban,zban]
abbrev zbaz9 : Array Bool := #[zbay,zbay,zbay,zbay,zbay,zbay,zbay,zbay,zbay,zban,zban,zban,zban,zban,zban,zban,zban,zban,zban,zban,zban]
abbrev zbaz10 : Array Bool := #[zbay,zbay,zbay,zbay,zbay,zbay,zbay,zbay,zbay,zbay,zban,zban,zban,zban,zban,zban,zban,zban,zban,zban,zban]
abbrev zbaz11 : Array Bool := #[zbay,zbay,zbay,zbay,zbay,zbay,zbay,zbay,zbay,zbay,zban,zbay,zban,zban,zban,zban,zban,zban,zban,zban,zban]
abbrev zbaz12 : Array Bool := #[zbay,zbay,zbay,zbay,zbay,zbay,zbay,zbay,zbay,zbay,zbay,zbay,zban,zban,zban,zban,zban,zban,zban,zban,zban]
abbrev zbaz13 : Array Bool := #[zbay,zbay,zbay,zbay,zbay,zbay,zbay,zbay,zbay,zbay,zbay,zbay,zbay,zban,zban,zban,zban,zban,zban,zban,zban]
abbrev zbaz14 : Array Bool := #[zbay,zbay,zbay,zbay,zbay,zbay,zbay,zbay,zbay,zbay,zbay,zbay,zbay,zbay,zban,zban,zban,zban,zban,zban,zban]
abbrev zbaz15 : Array Bool := #[zbay,zbay,zbay,zbay,zbay,zbay,zbay,zbay,zbay,zbay,zbay,zbay,zbay,zbay,zbay,zban,zban,zban,zban,zban,zban]
abbrev zbaz16 : Array Bool := #[zbay,zbay,zbay,zbay,zbay,zbay,zbay,zbay,zbay,zbay,zbay,zbay,zbay,zbay,zbay,zbay,zban,zban,zban,zban,zban]
abbrev zbaz17 : Array Bool := #[zbay,zbay,zbay,zbay,zbay,zbay,zbay,zbay,zbay,zbay,zbay,zbay,zbay,zbay,zbay,zbay,zban,zbay,zban,zban,zban]
abbrev zbaz18 : Array Bool := #[zbay,zbay,zbay,zbay,zbay,zbay,zbay,zbay,zbay,zbay,zbay,zbay,zbay,zbay,zbay,zbay,zbay,zbay,zban,zban,zban]
abbrev zbaz19 : Array Bool := #[zbay,zbay,zbay,zbay,zbay,zbay,zbay,zbay,zbay,zbay,zbay,zbay,zbay,zbay,zbay,zbay,zbay,zbay,zbay,zban,zban]
abbrev zbaz20 : Array Bool := #[zbay,zbay,zbay,zbay,zbay,zbay,zbay,zbay,zbay,zbay,zbay,zbay,zbay,zbay,zbay,zbay,zbay,zbay,zbay,zbay,zban]
abbrev zbaz21 : Array Bool := #[zbay,zbay,zbay,zbay,zbay,zbay,zbay,zbay,zbay,zbay,zbay,zbay,zbay,zbay,zbay,zbay,zbay,zbay,zbay,zbay,zbay]
theorem zbaq {α β γ : Type _} {A : α → β → γ → Prop} : ∀ a b c, A a b c → A a b c := fun _ _ _ h => h
theorem zbap {P : Program} {md : Region.Mode} {ops : Array Oper} {Q : Exit → Act → World → Prop} {S : World → Prop} {ds : List Nat} {oi : Oper} {fuel : Nat} {l : Array Bool} {a : Act} {w : World} {v : Value} {a' : Act} (i : Nat) (N : Option Tmp) (l' : Array Bool) (hi : ops[i]? = some oi) (hN : oi.dst = N) (hc : anyB md ops l l' i = true)
    (hQ : ∀ c a w, Q (.panic c) (a.put oi.dst v) w → Q (.panic c) a w) (hy : Yields P ops oi v a) (ha : a.put N v = a')
    (h : wpAnyLast P md ops Q S ds fuel l' a' w) : wpAnyLast P md ops Q S ds (fuel + 1) l a w := pure_ (i := i) (N := N) (v := v) (a' := a') l' hi hN hc hQ hy ha h
theorem zba1 {α : Type _} {l : List α} {i : Nat} {a : α} : l.toArray.setIfInBounds i a = (l.set i a).toArray := by simp
theorem zba2 {α : Type _} {x : α} {xs : List α} {a : α} : (x :: xs).set 0 a = a :: xs := rfl
theorem zba3 {α : Type _} {x : α} {xs : List α} {n : Nat} {a : α} : (x :: xs).set (n + 1) a = x :: xs.set n a := rfl
set_option maxHeartbeats 8000000 in
set_option maxRecDepth 100000 in
theorem annuitantlaw36_reads.calls (k : Nat) (a0 : ByteArray) (r : Bool) (w : World) (hG : GG w) (h : annuitantlaw36_reads.f k a0 = some r) :
  Calls Tryz.prog 10 #[.string a0] w fun e w' => e = .returned (.bool r) ∧ Below w.heap.size w w' := by
 have hu27 := Tryz.underlying27; have hu36 := Tryz.underlying36; have hu30 := Tryz.underlying30; have hu41 := Tryz.underlying41; have HG := Aside0.mk hG; clear hG; have HB := Aside0.mk (Below.refl w.heap.size w); have H : ((bank_Read.f k a0).bind fun bt359 => ((annuitantref36_Read.f k a0).bind fun bt366 => ((bank_ReadAnswer.f k a0).bind fun bt373 => ((annuitantref36_ReadAnswer.f k a0).bind fun bt380 => (if bt359.2.2.2 = bt366.2.2.2 then (if bt373.2.2.2 = bt380.2.2.2 then ((annuitantlaw36_plain.f bt359.1 bt359.2.1 bt359.2.2.1).bind fun bt387 => ((annuitantlaw36_sameFile.f k bt387.1 bt387.2.1 bt387.2.2 bt366.1 bt366.2.1 bt366.2.2.1).bind fun t392 => (if t392 = true then ((annuitantlaw36_old.f k bt373.1 bt373.2.1 bt373.2.2.1).bind fun bt393 => ((annuitantlaw36_sameAnswer.f k bt393.1 bt393.2.1 bt393.2.2 bt380.1 bt380.2.1 bt380.2.2.1).bind fun t398 => (some t398))) else (none)))) else (none)) else (none)))))) = some r := h; clear h; replace H := Option.bind_eq_some_iff.mp H; obtain ⟨⟨t359, t360, t361, t364⟩, A20, H⟩ := H; replace H : ((annuitantref36_Read.f k a0).bind fun bt366 => ((bank_ReadAnswer.f k a0).bind fun bt373 => ((annuitantref36_ReadAnswer.f k a0).bind fun bt380 => (if t364 = bt366.2.2.2 then (if bt373.2.2.2 = bt380.2.2.2 then ((annuitantlaw36_plain.f t359 t360 t361).bind fun bt387 => ((annuitantlaw36_sameFile.f k bt387.1 bt387.2.1 bt387.2.2 bt366.1 bt366.2.1 bt366.2.2.1).bind fun t392 => (if t392 = true then ((annuitantlaw36_old.f k bt373.1 bt373.2.1 bt373.2.2.1).bind fun bt393 => ((annuitantlaw36_sameAnswer.f k bt393.1 bt393.2.1 bt393.2.2 bt380.1 bt380.2.1 bt380.2.2.1).bind fun t398 => (some t398))) else (none)))) else (none)) else (none))))) = some r := H; have A2 := Aside0.mk A20; clear A20; replace H := Option.bind_eq_some_iff.mp H; obtain ⟨⟨t366, t367, t368, t371⟩, A30, H⟩ := H; replace H : ((bank_ReadAnswer.f k a0).bind fun bt373 => ((annuitantref36_ReadAnswer.f k a0).bind fun bt380 => (if t364 = t371 then (if bt373.2.2.2 = bt380.2.2.2 then ((annuitantlaw36_plain.f t359 t360 t361).bind fun bt387 => ((annuitantlaw36_sameFile.f k bt387.1 bt387.2.1 bt387.2.2 t366 t367 t368).bind fun t392 => (if t392 = true then ((annuitantlaw36_old.f k bt373.1 bt373.2.1 bt373.2.2.1).bind fun bt393 => ((annuitantlaw36_sameAnswer.f k bt393.1 bt393.2.1 bt393.2.2 bt380.1 bt380.2.1 bt380.2.2.1).bind fun t398 => (some t398))) else (none)))) else (none)) else (none)))) = some r := H; have A3 := Aside0.mk A30; clear A30; replace H := Option.bind_eq_some_iff.mp H; obtain ⟨⟨t373, t374, t375, t378⟩, A40, H⟩ := H; replace H : ((annuitantref36_ReadAnswer.f k a0).bind fun bt380 => (if t364 = t371 then (if t378 = bt380.2.2.2 then ((annuitantlaw36_plain.f t359 t360 t361).bind fun bt387 => ((annuitantlaw36_sameFile.f k bt387.1 bt387.2.1 bt387.2.2 t366 t367 t368).bind fun t392 => (if t392 = true then ((annuitantlaw36_old.f k t373 t374 t375).bind fun bt393 => ((annuitantlaw36_sameAnswer.f k bt393.1 bt393.2.1 bt393.2.2 bt380.1 bt380.2.1 bt380.2.2.1).bind fun t398 => (some t398))) else (none)))) else (none)) else (none))) = some r := H; have A4 := Aside0.mk A40; clear A40; replace H := Option.bind_eq_some_iff.mp H; obtain ⟨⟨t380, t381, t382, t385⟩, A50, H⟩ := H; replace H : (if t364 = t371 then (if t378 = t385 then ((annuitantlaw36_plain.f t359 t360 t361).bind fun bt387 => ((annuitantlaw36_sameFile.f k bt387.1 bt387.2.1 bt387.2.2 t366 t367 t368).bind fun t392 => (if t392 = true then ((annuitantlaw36_old.f k t373 t374 t375).bind fun bt393 => ((annuitantlaw36_sameAnswer.f k bt393.1 bt393.2.1 bt393.2.2 t380 t381 t382).bind fun t398 => (some t398))) else (none)))) else (none)) else (none)) = some r := H; have A5 := Aside0.mk A50; clear A50
 by_cases c6 : t364 = t371
 ·
  rw [if_pos c6] at H
  have c6b0 : (t364 == t371) = true := beq_iff_eq.mpr c6; have c6b1 : (t364 != t371) = false := bne_eq_false_iff_eq.mpr c6; clear c6
  by_cases c7 : t378 = t385
  ·
   rw [if_pos c7] at H
   have c7b0 : (t378 == t385) = true := beq_iff_eq.mpr c7; have c7b1 : (t378 != t385) = false := bne_eq_false_iff_eq.mpr c7; clear c7; replace H := Option.bind_eq_some_iff.mp H; obtain ⟨⟨t387, t388, t389⟩, A80, H⟩ := H; replace H : ((annuitantlaw36_sameFile.f k t387 t388 t389 t366 t367 t368).bind fun t392 => (if t392 = true then ((annuitantlaw36_old.f k t373 t374 t375).bind fun bt393 => ((annuitantlaw36_sameAnswer.f k bt393.1 bt393.2.1 bt393.2.2 t380 t381 t382).bind fun t398 => (some t398))) else (none))) = some r := H; have A8 := Aside0.mk A80; clear A80; replace H := Option.bind_eq_some_iff.mp H; obtain ⟨t392, A90, H⟩ := H; replace H : (if t392 = true then ((annuitantlaw36_old.f k t373 t374 t375).bind fun bt393 => ((annuitantlaw36_sameAnswer.f k bt393.1 bt393.2.1 bt393.2.2 t380 t381 t382).bind fun t398 => (some t398))) else (none)) = some r := H; have A9 := Aside0.mk A90; clear A90
   by_cases c10 : t392 = true
   ·
    subst c10
    have H1 : ((annuitantlaw36_old.f k t373 t374 t375).bind fun bt393 => ((annuitantlaw36_sameAnswer.f k bt393.1 bt393.2.1 bt393.2.2 t380 t381 t382).bind fun t398 => (some t398))) = some r := by rw [if_pos rfl] at H; exact H
    clear H; have H := H1; clear H1; replace H := Option.bind_eq_some_iff.mp H; obtain ⟨⟨t393, t394, t395⟩, A110, H⟩ := H; replace H : ((annuitantlaw36_sameAnswer.f k t393 t394 t395 t380 t381 t382).bind fun t398 => (some t398)) = some r := H; have A11 := Aside0.mk A110; clear A110; replace H := Option.bind_eq_some_iff.mp H; obtain ⟨t398, A120, H⟩ := H; replace H : (some t398) = some r := H; have A12 := Aside0.mk A120; clear A120; obtain rfl := Option.some.inj H
    go_enter Tryz.func10, Tryz.ntmps10
    try go_wp2_with (first | ((with_reducible refine gate_callee (f := 24) rfl ?_); refine goesL_ (some 13) rfl rfl Tryz.func24 (by kernel_rfl) rfl #[.string a0] rfl (by (try simp only [List.map_toArray, List.map_cons, List.map_nil]); try rfl) ?_; (with_reducible refine (bank_Read.calls k a0 t359 t360 t361 t364 _ ?side1 A2.out).mono ?_); (case side1 => exact GG.below HG.out zB); rintro e w13 ⟨v362, rfl, ho0, hb⟩; refine ⟨_, rfl, ?_⟩; have HO363 := Aside0.mk (Kd.R_lower ho0 (below_size zB)); replace HB := zBs hb; (try clear hb); (try clear hb2); (try clear hk); (try clear hi); (try clear ho0)) | ((with_reducible refine gate_dst (N := 3) rfl ?_); refine box_event ?hg (N := 3) ?hd (cs := #[.int .i64 0, .int .i64 0, .slice none 0 0]) (t := 27) ?hr ?_; (case hd => rfl); (case hg => rfl); (case hr => first | (go_simp; done) | (go_simp; rfl)); intro gb365 hg w14 hbox hb; replace HO363 := Aside0.mk (Kd.R_below (zR HO363) hb); have BK365 := Aside0.mk (hbox); have GW365 := zG (w := w) hg; have GE365 := zG (w := w) hg; replace HB := zBs hb; clear hb hbox hg; obtain ⟨hcz15_0, hcz15_1, hcz15_2⟩ := zC3 BK365; obtain ⟨hfz15_0, hfz15_1, hfz15_2⟩ := zZ3 BK365; obtain ⟨Ao16, co16, eo16⟩ := Kd.R_slice HO363.out; subst eo16) | ((with_reducible refine gate_callee (f := 32) rfl ?_); refine goesL_ (some 18) rfl rfl Tryz.func32 (by kernel_rfl) rfl #[.string a0] rfl (by (try simp only [List.map_toArray, List.map_cons, List.map_nil]); try rfl) ?_; (with_reducible refine (annuitantref36_Read.calls k a0 t366 t367 t368 t371 _ A3.out).mono ?_); rintro e w17 ⟨v369, rfl, ho0, hb⟩; refine ⟨_, rfl, ?_⟩; have HO370 := Aside0.mk (Kd.R_lower (Kd.R_new' ho0 (Kd.R_lt (by (with_reducible repeat (first | apply Kd.R_alloc | apply Kd.R_drewN | apply Kd.R_drew)); exact (Kd.R_mono (Kd.R_far (p := ⟨gb365, 2, none⟩) (Kd.R_far (p := ⟨gb365, 1, none⟩) (Kd.R_far (p := ⟨gb365, 0, none⟩) (Kd.R_types HO363.out BK365.out (by decide)) (fun _ hk => hk.2) (.int .i64 t359)) (fun _ hk => hk.2) (.int .i64 t360)) (fun _ hk => hk.2) (.slice Ao16 t361.length co16)) (fun _ h_ => h_.1))))) (below_size zB)); replace HO363 := Aside0.mk (Kd.R_elder' (by (with_reducible repeat (first | apply Kd.R_alloc | apply Kd.R_drewN | apply Kd.R_drew)); exact (Kd.R_mono (Kd.R_far (p := ⟨gb365, 2, none⟩) (Kd.R_far (p := ⟨gb365, 1, none⟩) (Kd.R_far (p := ⟨gb365, 0, none⟩) (Kd.R_types HO363.out BK365.out (by decide)) (fun _ hk => hk.2) (.int .i64 t359)) (fun _ hk => hk.2) (.int .i64 t360)) (fun _ hk => hk.2) (.slice Ao16 t361.length co16)) (fun _ h_ => h_.1))) (Kd.R_base ho0) hb); replace BK365 := Aside0.mk (blk_below (g := gb365) (o := .cells #[.int .i64 t359, .int .i64 t360, .slice Ao16 t361.length co16] 27 (0, 0)) (by (with_reducible repeat (first | apply blk_drewN | apply blk_drew | apply blk_alloc)); refine blk_put (cs := #[.int .i64 t359, .int .i64 t360, .slice none 0 0]) ?_ 2 _ rfl; (with_reducible repeat (first | apply blk_drewN | apply blk_drew | apply blk_alloc)); refine blk_put (cs := #[.int .i64 t359, .int .i64 0, .slice none 0 0]) ?_ 1 _ rfl; (with_reducible repeat (first | apply blk_drewN | apply blk_drew | apply blk_alloc)); refine blk_put (cs := #[.int .i64 0, .int .i64 0, .slice none 0 0]) ?_ 0 _ rfl; (with_reducible repeat (first | apply blk_drewN | apply blk_drew | apply blk_alloc)); exact BK365.out) hb); replace HB := zBs hb; (try clear hb); (try clear hb2); (try clear hk); (try clear hi); (try clear ho0)) | ((with_reducible refine gate_dst (N := 5) rfl ?_); refine box_event ?hg (N := 5) ?hd (cs := #[.int .i64 0, .int .i64 0, .slice none 0 0]) (t := 36) ?hr ?_; (case hd => rfl); (case hg => rfl); (case hr => first | (go_simp; done) | (go_simp; rfl)); intro gb372 hg w18 hbox hb; replace HO363 := Aside0.mk (Kd.R_below (zR HO363) hb); replace HO370 := Aside0.mk (Kd.R_below (zR HO370) hb); have BK372 := Aside0.mk (hbox); have GW372 := zG (w := w) hg; have GE372 := zG (w := w) hg; replace HB := zBs hb; have NB365_372 := zN hg (zK BK365); have NB372_365 := zM hg (zK BK365); replace BK365 := zKb BK365 hb; clear hb hbox hg; have hnb19 := NB372_365.out; have hnc19 := NB365_372.out; obtain ⟨hcz20_0, hcz20_1, hcz20_2⟩ := zC3 BK372; obtain ⟨hfz20_0, hfz20_1, hfz20_2⟩ := zZ3 BK372; obtain ⟨Ao21, co21, eo21⟩ := Kd.R_slice HO370.out; subst eo21) | ((with_reducible refine gate_callee (f := 25) rfl ?_); refine goesL_ (some 23) rfl rfl Tryz.func25 (by kernel_rfl) rfl #[.string a0] rfl (by (try simp only [List.map_toArray, List.map_cons, List.map_nil]); try rfl) ?_; (with_reducible refine (bank_ReadAnswer.calls k a0 t373 t374 t375 t378 _ ?side1 A4.out).mono ?_); (case side1 => exact GG.below HG.out zB); rintro e w22 ⟨v376, rfl, ho0, hb⟩; refine ⟨_, rfl, ?_⟩; replace HO363 := Aside0.mk (Kd.R_below (by (with_reducible repeat (first | apply Kd.R_alloc | apply Kd.R_drewN | apply Kd.R_drew)); exact (Kd.R_mono (Kd.R_far (p := ⟨gb372, 2, none⟩) (Kd.R_far (p := ⟨gb372, 1, none⟩) (Kd.R_far (p := ⟨gb372, 0, none⟩) (Kd.R_types HO363.out BK372.out (by decide)) (fun _ hk => hk.2) (.int .i64 t366)) (fun _ hk => hk.2) (.int .i64 t367)) (fun _ hk => hk.2) (.slice Ao21 t368.length co21)) (fun _ h_ => h_.1))) hb); replace HO370 := Aside0.mk (Kd.R_below (by (with_reducible repeat (first | apply Kd.R_alloc | apply Kd.R_drewN | apply Kd.R_drew)); exact (Kd.R_mono (Kd.R_far (p := ⟨gb372, 2, none⟩) (Kd.R_far (p := ⟨gb372, 1, none⟩) (Kd.R_far (p := ⟨gb372, 0, none⟩) (Kd.R_types HO370.out BK372.out (by decide)) (fun _ hk => hk.2) (.int .i64 t366)) (fun _ hk => hk.2) (.int .i64 t367)) (fun _ hk => hk.2) (.slice Ao21 t368.length co21)) (fun _ h_ => h_.1))) hb); have HO377 := Aside0.mk (Kd.R_lower ho0 (below_size zB)); replace BK365 := Aside0.mk (blk_below (zF BK365) hb); replace BK372 := Aside0.mk (blk_below (g := gb372) (o := .cells #[.int .i64 t366, .int .i64 t367, .slice Ao21 t368.length co21] 36 (0, 0)) (by (with_reducible repeat (first | apply blk_drewN | apply blk_drew | apply blk_alloc)); refine blk_put (cs := #[.int .i64 t366, .int .i64 t367, .slice none 0 0]) ?_ 2 _ rfl; (with_reducible repeat (first | apply blk_drewN | apply blk_drew | apply blk_alloc)); refine blk_put (cs := #[.int .i64 t366, .int .i64 0, .slice none 0 0]) ?_ 1 _ rfl; (with_reducible repeat (first | apply blk_drewN | apply blk_drew | apply blk_alloc)); refine blk_put (cs := #[.int .i64 0, .int .i64 0, .slice none 0 0]) ?_ 0 _ rfl; (with_reducible repeat (first | apply blk_drewN | apply blk_drew | apply blk_alloc)); exact BK372.out) hb); replace HB := zBs hb; (try clear hb); (try clear hb2); (try clear hk); (try clear hi); (try clear ho0)) | ((with_reducible refine gate_dst (N := 7) rfl ?_); refine box_event ?hg (N := 7) ?hd (cs := #[.int .i64 0, .int .i64 0, .slice none 0 0]) (t := 30) ?hr ?_; (case hd => rfl); (case hg => rfl); (case hr => first | (go_simp; done) | (go_simp; rfl)); intro gb379 hg w23 hbox hb; replace HO363 := Aside0.mk (Kd.R_below (zR HO363) hb); replace HO370 := Aside0.mk (Kd.R_below (zR HO370) hb); replace HO377 := Aside0.mk (Kd.R_below (zR HO377) hb); have BK379 := Aside0.mk (hbox); have GW379 := zG (w := w) hg; have GE379 := zG (w := w) hg; replace HB := zBs hb; have NB365_379 := zN hg (zK BK365); have NB379_365 := zM hg (zK BK365); replace BK365 := zKb BK365 hb; have NB372_379 := zN hg (zK BK372); have NB379_372 := zM hg (zK BK372); replace BK372 := zKb BK372 hb; clear hb hbox hg; have hnb24 := NB379_365.out; have hnc24 := NB365_379.out; have hnb25 := NB379_372.out; have hnc25 := NB372_379.out; obtain ⟨hcz26_0, hcz26_1, hcz26_2⟩ := zC3 BK379; obtain ⟨hfz26_0, hfz26_1, hfz26_2⟩ := zZ3 BK379; obtain ⟨Ao27, co27, eo27⟩ := Kd.R_slice HO377.out; subst eo27) | ((with_reducible refine gate_callee (f := 33) rfl ?_); refine goesL_ (some 28) rfl rfl Tryz.func33 (by kernel_rfl) rfl #[.string a0] rfl (by (try simp only [List.map_toArray, List.map_cons, List.map_nil]); try rfl) ?_; (with_reducible refine (annuitantref36_ReadAnswer.calls k a0 t380 t381 t382 t385 _ A5.out).mono ?_); rintro e w28 ⟨v383, rfl, ho0, hb⟩; refine ⟨_, rfl, ?_⟩; replace HO363 := Aside0.mk (Kd.R_below (by (with_reducible repeat (first | apply Kd.R_alloc | apply Kd.R_drewN | apply Kd.R_drew)); exact (Kd.R_mono (Kd.R_far (p := ⟨gb379, 2, none⟩) (Kd.R_far (p := ⟨gb379, 1, none⟩) (Kd.R_far (p := ⟨gb379, 0, none⟩) (Kd.R_types HO363.out BK379.out (by decide)) (fun _ hk => hk.2) (.int .i64 t373)) (fun _ hk => hk.2) (.int .i64 t374)) (fun _ hk => hk.2) (.slice Ao27 t375.length co27)) (fun _ h_ => h_.1))) hb); replace HO370 := Aside0.mk (Kd.R_below (by (with_reducible repeat (first | apply Kd.R_alloc | apply Kd.R_drewN | apply Kd.R_drew)); exact (Kd.R_mono (Kd.R_far (p := ⟨gb379, 2, none⟩) (Kd.R_far (p := ⟨gb379, 1, none⟩) (Kd.R_far (p := ⟨gb379, 0, none⟩) (Kd.R_types HO370.out BK379.out (by decide)) (fun _ hk => hk.2) (.int .i64 t373)) (fun _ hk => hk.2) (.int .i64 t374)) (fun _ hk => hk.2) (.slice Ao27 t375.length co27)) (fun _ h_ => h_.1))) hb); replace HO377 := Aside0.mk (Kd.R_below (by (with_reducible repeat (first | apply Kd.R_alloc | apply Kd.R_drewN | apply Kd.R_drew)); exact (Kd.R_mono (Kd.R_far (p := ⟨gb379, 2, none⟩) (Kd.R_far (p := ⟨gb379, 1, none⟩) (Kd.R_far (p := ⟨gb379, 0, none⟩) (Kd.R_types HO377.out BK379.out (by decide)) (fun _ hk => hk.2) (.int .i64 t373)) (fun _ hk => hk.2) (.int .i64 t374)) (fun _ hk => hk.2) (.slice Ao27 t375.length co27)) (fun _ h_ => h_.1))) hb); have HO384 := Aside0.mk (Kd.R_lower ho0 (below_size zB)); replace BK365 := Aside0.mk (blk_below (zF BK365) hb); replace BK372 := Aside0.mk (blk_below (zF BK372) hb); replace BK379 := Aside0.mk (blk_below (g := gb379) (o := .cells #[.int .i64 t373, .int .i64 t374, .slice Ao27 t375.length co27] 30 (0, 0)) (by (with_reducible repeat (first | apply blk_drewN | apply blk_drew | apply blk_alloc)); refine blk_put (cs := #[.int .i64 t373, .int .i64 t374, .slice none 0 0]) ?_ 2 _ rfl; (with_reducible repeat (first | apply blk_drewN | apply blk_drew | apply blk_alloc)); refine blk_put (cs := #[.int .i64 t373, .int .i64 0, .slice none 0 0]) ?_ 1 _ rfl; (with_reducible repeat (first | apply blk_drewN | apply blk_drew | apply blk_alloc)); refine blk_put (cs := #[.int .i64 0, .int .i64 0, .slice none 0 0]) ?_ 0 _ rfl; (with_reducible repeat (first | apply blk_drewN | apply blk_drew | apply blk_alloc)); exact BK379.out) hb); replace HB := zBs hb; (try clear hb); (try clear hb2); (try clear hk); (try clear hi); (try clear ho0)) | ((with_reducible refine gate_dst (N := 9) rfl ?_); refine box_event ?hg (N := 9) ?hd (cs := #[.int .i64 0, .int .i64 0, .slice none 0 0]) (t := 41) ?hr ?_; (case hd => rfl); (case hg => rfl); (case hr => first | (go_simp; done) | (go_simp; rfl)); intro gb386 hg w29 hbox hb; replace HO363 := Aside0.mk (Kd.R_below (zR HO363) hb); replace HO370 := Aside0.mk (Kd.R_below (zR HO370) hb); replace HO377 := Aside0.mk (Kd.R_below (zR HO377) hb); replace HO384 := Aside0.mk (Kd.R_below (zR HO384) hb); have BK386 := Aside0.mk (hbox); have GW386 := zG (w := w) hg; have GE386 := zG (w := w) hg; replace HB := zBs hb; have NB365_386 := zN hg (zK BK365); have NB386_365 := zM hg (zK BK365); replace BK365 := zKb BK365 hb; have NB372_386 := zN hg (zK BK372); have NB386_372 := zM hg (zK BK372); replace BK372 := zKb BK372 hb; have NB379_386 := zN hg (zK BK379); have NB386_379 := zM hg (zK BK379); replace BK379 := zKb BK379 hb; clear hb hbox hg; have hnb30 := NB386_365.out; have hnc30 := NB365_386.out; have hnb31 := NB386_372.out; have hnc31 := NB372_386.out; have hnb32 := NB386_379.out; have hnc32 := NB379_386.out; obtain ⟨hcz33_0, hcz33_1, hcz33_2⟩ := zC3 BK386; obtain ⟨hfz33_0, hfz33_1, hfz33_2⟩ := zZ3 BK386; obtain ⟨Ao34, co34, eo34⟩ := Kd.R_slice HO384.out; subst eo34))
    have n0_ : Aside0 (Kd.R k47 47 (((w29.setCell ⟨gb386, 0, none⟩ (.int .i64 t380)).setCell ⟨gb386, 1, none⟩ (.int .i64 t381)).setCell ⟨gb386, 2, none⟩ (.slice Ao34 t382.length co34)) w.heap.size (fun k_ => some k_ ≠ (.slice Ao21 t368.length co21 : Value).ownBlock) (.slice Ao16 t361.length co16) t361) := ⟨by (with_reducible repeat (first | apply Kd.R_alloc | apply Kd.R_drewN | apply Kd.R_drew)); exact Kd.R_mono (Kd.R_far (p := ⟨gb386, 2, none⟩) (Kd.R_far (p := ⟨gb386, 1, none⟩) (Kd.R_far (p := ⟨gb386, 0, none⟩) (Kd.R_types HO363.out BK386.out (by decide)) (fun _ hk => hk.2) (.int .i64 t380)) (fun _ hk => hk.2) (.int .i64 t381)) (fun _ hk => hk.2) (.slice Ao34 t382.length co34)) (fun _ hk => hk.1.2)⟩
    have n1_ : Aside0 (Kd.R k47 47 (((w29.setCell ⟨gb386, 0, none⟩ (.int .i64 t380)).setCell ⟨gb386, 1, none⟩ (.int .i64 t381)).setCell ⟨gb386, 2, none⟩ (.slice Ao34 t382.length co34)) w.heap.size (fun k_ => some k_ ≠ (.slice Ao16 t361.length co16 : Value).ownBlock) (.slice Ao21 t368.length co21) t368) := ⟨by (with_reducible repeat (first | apply Kd.R_alloc | apply Kd.R_drewN | apply Kd.R_drew)); exact Kd.R_mono (Kd.R_far (p := ⟨gb386, 2, none⟩) (Kd.R_far (p := ⟨gb386, 1, none⟩) (Kd.R_far (p := ⟨gb386, 0, none⟩) (Kd.R_types HO370.out BK386.out (by decide)) (fun _ hk => hk.2) (.int .i64 t380)) (fun _ hk => hk.2) (.int .i64 t381)) (fun _ hk => hk.2) (.slice Ao34 t382.length co34)) (fun _ hk => hk.1.2)⟩
    have n2_ : Aside0 (Kd.R k49 49 (((w29.setCell ⟨gb386, 0, none⟩ (.int .i64 t380)).setCell ⟨gb386, 1, none⟩ (.int .i64 t381)).setCell ⟨gb386, 2, none⟩ (.slice Ao34 t382.length co34)) w.heap.size (fun _ => True) (.slice Ao27 t375.length co27) t375) := ⟨by (with_reducible repeat (first | apply Kd.R_alloc | apply Kd.R_drewN | apply Kd.R_drew)); exact Kd.R_mono (Kd.R_far (p := ⟨gb386, 2, none⟩) (Kd.R_far (p := ⟨gb386, 1, none⟩) (Kd.R_far (p := ⟨gb386, 0, none⟩) (Kd.R_types HO377.out BK386.out (by decide)) (fun _ hk => hk.2) (.int .i64 t380)) (fun _ hk => hk.2) (.int .i64 t381)) (fun _ hk => hk.2) (.slice Ao34 t382.length co34)) (fun _ hk => trivial)⟩
    have n3_ : Aside0 (Kd.R k78 78 (((w29.setCell ⟨gb386, 0, none⟩ (.int .i64 t380)).setCell ⟨gb386, 1, none⟩ (.int .i64 t381)).setCell ⟨gb386, 2, none⟩ (.slice Ao34 t382.length co34)) w.heap.size (fun _ => True) (.slice Ao34 t382.length co34) t382) := ⟨by (with_reducible repeat (first | apply Kd.R_alloc | apply Kd.R_drewN | apply Kd.R_drew)); exact Kd.R_mono (Kd.R_far (p := ⟨gb386, 2, none⟩) (Kd.R_far (p := ⟨gb386, 1, none⟩) (Kd.R_far (p := ⟨gb386, 0, none⟩) (Kd.R_types HO384.out BK386.out (by decide)) (fun _ hk => hk.2) (.int .i64 t380)) (fun _ hk => hk.2) (.int .i64 t381)) (fun _ hk => hk.2) (.slice Ao34 t382.length co34)) (fun _ hk => trivial)⟩
    have n4_ : Aside0 ((((w29.setCell ⟨gb386, 0, none⟩ (.int .i64 t380)).setCell ⟨gb386, 1, none⟩ (.int .i64 t381)).setCell ⟨gb386, 2, none⟩ (.slice Ao34 t382.length co34)).heap[gb365]? = some (.cells #[.int .i64 t359, .int .i64 t360, .slice Ao16 t361.length co16] 27 (0, 0))) := ⟨zF BK365⟩
    have n5_ : Aside0 ((((w29.setCell ⟨gb386, 0, none⟩ (.int .i64 t380)).setCell ⟨gb386, 1, none⟩ (.int .i64 t381)).setCell ⟨gb386, 2, none⟩ (.slice Ao34 t382.length co34)).heap[gb372]? = some (.cells #[.int .i64 t366, .int .i64 t367, .slice Ao21 t368.length co21] 36 (0, 0))) := ⟨zF BK372⟩
    have n6_ : Aside0 ((((w29.setCell ⟨gb386, 0, none⟩ (.int .i64 t380)).setCell ⟨gb386, 1, none⟩ (.int .i64 t381)).setCell ⟨gb386, 2, none⟩ (.slice Ao34 t382.length co34)).heap[gb379]? = some (.cells #[.int .i64 t373, .int .i64 t374, .slice Ao27 t375.length co27] 30 (0, 0))) := ⟨zF BK379⟩
    have n7_ : Aside0 ((((w29.setCell ⟨gb386, 0, none⟩ (.int .i64 t380)).setCell ⟨gb386, 1, none⟩ (.int .i64 t381)).setCell ⟨gb386, 2, none⟩ (.slice Ao34 t382.length co34)).heap[gb386]? = some (.cells #[.int .i64 t380, .int .i64 t381, .slice Ao34 t382.length co34] 41 (0, 0))) := ⟨by (with_reducible repeat (first | apply blk_drewN | apply blk_drew | apply blk_alloc)); refine blk_put (cs := #[.int .i64 t380, .int .i64 t381, .slice none 0 0]) ?_ 2 _ rfl; (with_reducible repeat (first | apply blk_drewN | apply blk_drew | apply blk_alloc)); refine blk_put (cs := #[.int .i64 t380, .int .i64 0, .slice none 0 0]) ?_ 1 _ rfl; (with_reducible repeat (first | apply blk_drewN | apply blk_drew | apply blk_alloc)); refine blk_put (cs := #[.int .i64 0, .int .i64 0, .slice none 0 0]) ?_ 0 _ rfl; (with_reducible repeat (first | apply blk_drewN | apply blk_drew | apply blk_alloc)); exact BK386.out⟩
    have n8_ : Aside0 (Below w.heap.size w (((w29.setCell ⟨gb386, 0, none⟩ (.int .i64 t380)).setCell ⟨gb386, 1, none⟩ (.int .i64 t381)).setCell ⟨gb386, 2, none⟩ (.slice Ao34 t382.length co34))) := ⟨zB⟩
    (try clear HO363)
    (try clear HO370)
    (try clear HO377)
    (try clear HO384)
    (try clear BK365)
    (try clear BK372)
    (try clear BK379)
    (try clear BK386)
    (try clear HB)
    generalize (((w29.setCell ⟨gb386, 0, none⟩ (.int .i64 t380)).setCell ⟨gb386, 1, none⟩ (.int .i64 t381)).setCell ⟨gb386, 2, none⟩ (.slice Ao34 t382.length co34)) = w35 at n0_ n1_ n2_ n3_ n4_ n5_ n6_ n7_ n8_ ⊢
    have HO363 := n0_; have HO370 := n1_; have HO377 := n2_; have HO384 := n3_; have BK365 := n4_; have BK372 := n5_; have BK379 := n6_; have BK386 := n7_; have HB := n8_; clear n0_ n1_ n2_ n3_ n4_ n5_ n6_ n7_ n8_; replace HO363 := Aside0.mk (Kd.R_drew HO363.out); replace HO370 := Aside0.mk (Kd.R_drew HO370.out); replace HO377 := Aside0.mk (Kd.R_drew HO377.out); replace HO384 := Aside0.mk (Kd.R_drew HO384.out); replace BK365 := Aside0.mk (blk_drew BK365.out); replace BK372 := Aside0.mk (blk_drew BK372.out); replace BK379 := Aside0.mk (blk_drew BK379.out); replace BK386 := Aside0.mk (blk_drew BK386.out); replace HB := Aside0.mk (below_drew1 HB.out); 
    refine start_ (n := 21) (S := fun w' => w'.cell? ⟨gb365, 0, none⟩ = some (.int .i64 t359) ∧ w'.cell? ⟨gb365, 1, none⟩ = some (.int .i64 t360) ∧ w'.cell? ⟨gb365, 2, none⟩ = some (.slice Ao16 t361.length co16) ∧ w'.cell? ⟨gb372, 0, none⟩ = some (.int .i64 t366) ∧ w'.cell? ⟨gb372, 1, none⟩ = some (.int .i64 t367) ∧ w'.cell? ⟨gb372, 2, none⟩ = some (.slice Ao21 t368.length co21) ∧ w'.cell? ⟨gb379, 0, none⟩ = some (.int .i64 t373) ∧ w'.cell? ⟨gb379, 1, none⟩ = some (.int .i64 t374) ∧ w'.cell? ⟨gb379, 2, none⟩ = some (.slice Ao27 t375.length co27) ∧ w'.cell? ⟨gb386, 0, none⟩ = some (.int .i64 t380) ∧ w'.cell? ⟨gb386, 1, none⟩ = some (.int .i64 t381) ∧ w'.cell? ⟨gb386, 2, none⟩ = some (.slice Ao34 t382.length co34)) (ds := []) zbaz0 (by kernel_rfl) rfl rfl ⟨(blk_cell BK365.out 0).trans rfl, (blk_cell BK365.out 1).trans rfl, (blk_cell BK365.out 2).trans rfl, (blk_cell BK372.out 0).trans rfl, (blk_cell BK372.out 1).trans rfl, (blk_cell BK372.out 2).trans rfl, (blk_cell BK379.out 0).trans rfl, (blk_cell BK379.out 1).trans rfl, (blk_cell BK379.out 2).trans rfl, (blk_cell BK386.out 0).trans rfl, (blk_cell BK386.out 1).trans rfl, (blk_cell BK386.out 2).trans rfl⟩ (fun hHeld => ?_); refine with_tabW annuitantlaw36_reads.tab5 annuitantlaw36_reads.bits5 (fun HT_ HW_ => ?_)
    generalize w35.drew = w36 at HO363 HO370 HO377 HO384 BK365 BK372 BK379 BK386 HB hHeld ⊢
    refine zbap 0 (some 31) zbaz1 rfl rfl (any_of HT_.out (by kernel_rfl)) zbaq (Or.inl ⟨by rfl, by intro w'; go_simp; with_reducible rfl⟩) (by simp only [Act.put, zba1, zba2, zba3, i64_w, i32_w]; rfl) ?_
    refine zbap 1 (some 32) zbaz2 rfl rfl (any_of HT_.out (by kernel_rfl)) zbaq (Or.inl ⟨by rfl, by intro w'; go_simp; with_reducible rfl⟩) (by simp only [Act.put, zba1, zba2, zba3, i64_w, i32_w]; rfl) ?_
    refine zbap 2 (some 33) zbaz3 rfl rfl (any_of HT_.out (by kernel_rfl)) zbaq (Or.inl ⟨by rfl, by intro w'; go_simp; with_reducible rfl⟩) (by simp only [Act.put, zba1, zba2, zba3, i64_w, i32_w]; rfl) ?_
    refine zbap 3 (some 34) zbaz4 rfl rfl (any_of HT_.out (by kernel_rfl)) zbaq (Or.inl ⟨by rfl, by intro w'; go_simp; with_reducible rfl⟩) (by simp only [Act.put, zba1, zba2, zba3, i64_w, i32_w]; rfl) ?_
    refine zbap 4 (some 35) zbaz5 rfl rfl (any_of HT_.out (by kernel_rfl)) zbaq (Or.inl ⟨by rfl, by intro w'; go_simp; with_reducible rfl⟩) (by simp only [Act.put, zba1, zba2, zba3, i64_w, i32_w]; rfl) ?_
    refine zbap 5 (some 36) zbaz6 rfl rfl (any_of HT_.out (by kernel_rfl)) zbaq (Or.inl ⟨by rfl, by intro w'; go_simp; with_reducible rfl⟩) (by simp only [Act.put, zba1, zba2, zba3, i64_w, i32_w]; rfl) ?_
    refine zbap 6 (some 37) zbaz7 rfl rfl (any_of HT_.out (by kernel_rfl)) zbaq (Or.inl ⟨by rfl, by intro w'; go_simp; with_reducible rfl⟩) (by simp only [Act.put, zba1, zba2, zba3, i64_w, i32_w]; rfl) ?_
    refine zbap 7 (some 38) zbaz8 rfl rfl (any_of HT_.out (by kernel_rfl)) zbaq (Or.inl ⟨by rfl, by intro w'; go_simp; with_reducible rfl⟩) (by simp only [Act.put, zba1, zba2, zba3, i64_w, i32_w]; rfl) ?_
    refine zbap 8 (some 39) zbaz9 rfl rfl (any_of HT_.out (by kernel_rfl)) zbaq (Or.inl ⟨by rfl, by intro w'; go_simp; with_reducible rfl⟩) (by simp only [Act.put, zba1, zba2, zba3, i64_w, i32_w]; rfl) ?_
    refine take_ (i := 9) (N := some 40) (v := ?_) (a' := ?_) zbaz10 rfl rfl (take_ofW HT_.out HW_.out (by kernel_rfl)) (fun _ _ _ h => h) (Or.inl ⟨by rfl, ?_⟩) hHeld ?_ ?_
    rotate_left
    ·
     rintro w' ⟨s0, s1, s2, s3, s4, s5, s6, s7, s8, s9, s10, s11⟩
     go_simp
     with_reducible rfl
    rotate_left
    · simp only [Act.put, zba1, zba2, zba3, i64_w, i32_w]; rfl
    refine take_ (i := 11) (N := some 42) (v := ?_) (a' := ?_) zbaz11 rfl rfl (take_ofW HT_.out HW_.out (by kernel_rfl)) (fun _ _ _ h => h) (Or.inl ⟨by rfl, ?_⟩) hHeld ?_ ?_
    rotate_left
    ·
     rintro w' ⟨s0, s1, s2, s3, s4, s5, s6, s7, s8, s9, s10, s11⟩
     go_simp
     with_reducible rfl
    rotate_left
    · simp only [Act.put, zba1, zba2, zba3, i64_w, i32_w]; rfl
    refine one_ (i := 10) (N := some 41) zbaz12 rfl rfl (one_of HT_.out (by kernel_rfl)) (by decide) (fun K hK => ?_)
    refine goes_ Tryz.func14 (by kernel_rfl) rfl #[.agg #[.int .i64 t359, .int .i64 t360, .slice Ao16 t361.length co16]] (by rfl) rfl rfl (by (try simp only [List.map_toArray, List.map_cons, List.map_nil]); try rfl) ?_
    with_reducible refine (annuitantlaw36_plain.calls t359 t360 (fun k_ => some k_ = (.slice Ao16 t361.length co16 : Value).ownBlock) _ _ t361 t387 t388 t389 _ ?side1 A8.out).mono ?_
    (case side1 => exact Kd.R_V (Kd.R_tight rfl (Kd.R_types (Kd.R_types (Kd.R_types (Kd.R_types (Kd.R_apart' (Kd.R_apart' (HO363.out) (Kd.R_typed HO377.out) (by decide)) (Kd.R_typed HO384.out) (by decide)) BK365.out (by decide)) BK372.out (by decide)) BK379.out (by decide)) BK386.out (by decide))))
    rintro e w37 ⟨v390, rfl, ho0, hb⟩
    refine ⟨_, rfl, ?_⟩
    have n0_ := Aside0.mk (Kd.R_below (zR HO363) hb)
    have n1_ := Aside0.mk (Kd.R_below (zR HO370) hb)
    have n2_ := Aside0.mk (Kd.R_below (zR HO377) hb)
    have n3_ := Aside0.mk (Kd.R_below (zR HO384) hb)
    have n4_ := Aside0.mk (Kd.V_lower (Kd.V_mono (ok' := fun k_ => some k_ ≠ (.slice Ao21 t368.length co21 : Value).ownBlock ∧ some k_ ≠ (.slice Ao27 t375.length co27 : Value).ownBlock ∧ some k_ ≠ (.slice Ao34 t382.length co34 : Value).ownBlock ∧ k_ ≠ gb365 ∧ k_ ≠ gb372 ∧ k_ ≠ gb379 ∧ k_ ≠ gb386) ho0 (fun k_ hk_ => ⟨Or.elim hk_ (fun hs_ => ((Kd.R_types (Kd.R_types (Kd.R_types (Kd.R_types (Kd.R_apart' (Kd.R_apart' (HO363.out) (Kd.R_typed HO377.out) (by decide)) (Kd.R_typed HO384.out) (by decide)) BK365.out (by decide)) BK372.out (by decide)) BK379.out (by decide)) BK386.out (by decide)).1 k_ hs_.symm).1.1.1.1.1.1) (fun hn_ => (Kd.fresh' (Kd.R_lt (zR HO370)) k_ hn_)), Or.elim hk_ (fun hs_ => ((Kd.R_types (Kd.R_types (Kd.R_types (Kd.R_types (Kd.R_apart' (Kd.R_apart' (HO363.out) (Kd.R_typed HO377.out) (by decide)) (Kd.R_typed HO384.out) (by decide)) BK365.out (by decide)) BK372.out (by decide)) BK379.out (by decide)) BK386.out (by decide)).1 k_ hs_.symm).1.1.1.1.1.2) (fun hn_ => (Kd.fresh' (Kd.R_lt (zR HO377)) k_ hn_)), Or.elim hk_ (fun hs_ => ((Kd.R_types (Kd.R_types (Kd.R_types (Kd.R_types (Kd.R_apart' (Kd.R_apart' (HO363.out) (Kd.R_typed HO377.out) (by decide)) (Kd.R_typed HO384.out) (by decide)) BK365.out (by decide)) BK372.out (by decide)) BK379.out (by decide)) BK386.out (by decide)).1 k_ hs_.symm).1.1.1.1.2) (fun hn_ => (Kd.fresh' (Kd.R_lt (zR HO384)) k_ hn_)), Or.elim hk_ (fun hs_ => ((Kd.R_types (Kd.R_types (Kd.R_types (Kd.R_types (Kd.R_apart' (Kd.R_apart' (HO363.out) (Kd.R_typed HO377.out) (by decide)) (Kd.R_typed HO384.out) (by decide)) BK365.out (by decide)) BK372.out (by decide)) BK379.out (by decide)) BK386.out (by decide)).1 k_ hs_.symm).1.1.1.2) (fun hn_ => (Kd.freshB (g := gb365) (o := .cells #[.int .i64 t359, .int .i64 t360, .slice Ao16 t361.length co16] 27 (0, 0)) (zK BK365) k_ hn_)), Or.elim hk_ (fun hs_ => ((Kd.R_types (Kd.R_types (Kd.R_types (Kd.R_types (Kd.R_apart' (Kd.R_apart' (HO363.out) (Kd.R_typed HO377.out) (by decide)) (Kd.R_typed HO384.out) (by decide)) BK365.out (by decide)) BK372.out (by decide)) BK379.out (by decide)) BK386.out (by decide)).1 k_ hs_.symm).1.1.2) (fun hn_ => (Kd.freshB (g := gb372) (o := .cells #[.int .i64 t366, .int .i64 t367, .slice Ao21 t368.length co21] 36 (0, 0)) (zK BK372) k_ hn_)), Or.elim hk_ (fun hs_ => ((Kd.R_types (Kd.R_types (Kd.R_types (Kd.R_types (Kd.R_apart' (Kd.R_apart' (HO363.out) (Kd.R_typed HO377.out) (by decide)) (Kd.R_typed HO384.out) (by decide)) BK365.out (by decide)) BK372.out (by decide)) BK379.out (by decide)) BK386.out (by decide)).1 k_ hs_.symm).1.2) (fun hn_ => (Kd.freshB (g := gb379) (o := .cells #[.int .i64 t373, .int .i64 t374, .slice Ao27 t375.length co27] 30 (0, 0)) (zK BK379) k_ hn_)), Or.elim hk_ (fun hs_ => ((Kd.R_types (Kd.R_types (Kd.R_types (Kd.R_types (Kd.R_apart' (Kd.R_apart' (HO363.out) (Kd.R_typed HO377.out) (by decide)) (Kd.R_typed HO384.out) (by decide)) BK365.out (by decide)) BK372.out (by decide)) BK379.out (by decide)) BK386.out (by decide)).1 k_ hs_.symm).2) (fun hn_ => (Kd.freshB (g := gb386) (o := .cells #[.int .i64 t380, .int .i64 t381, .slice Ao34 t382.length co34] 41 (0, 0)) (zK BK386) k_ hn_))⟩)) (below_size zB))
    have n5_ := zKb BK365 hb
    have n6_ := zKb BK372 hb
    have n7_ := zKb BK379 hb
    have n8_ := zKb BK386 hb
    have n9_ := zBs hb; clear HO363; clear HO370; clear HO377; clear HO384; clear BK365; clear BK372; clear BK379; clear BK386; clear HB; have HO363 := n0_; have HO370 := n1_; have HO377 := n2_; have HO384 := n3_; have HO391 := n4_; have BK365 := n5_; have BK372 := n6_; have BK379 := n7_; have BK386 := n8_; have HB := n9_; clear n0_ n1_ n2_ n3_ n4_ n5_ n6_ n7_ n8_ n9_
    (try clear hb)
    (try clear hb2)
    (try clear hk)
    (try clear hi)
    (try clear ho0)
    obtain ⟨Ao38, co38, eo38⟩ := Kd.V_slice HO391.out
    (first | subst eo38 | (injection eo38 with f1_ f2_ f3_; have f4_ := f1_.symm; have f5_ := f3_.symm; clear f1_ f2_ f3_; subst f4_; subst f5_))
    refine hK.out _ _ ⟨(blk_cell BK365.out 0).trans rfl, (blk_cell BK365.out 1).trans rfl, (blk_cell BK365.out 2).trans rfl, (blk_cell BK372.out 0).trans rfl, (blk_cell BK372.out 1).trans rfl, (blk_cell BK372.out 2).trans rfl, (blk_cell BK379.out 0).trans rfl, (blk_cell BK379.out 1).trans rfl, (blk_cell BK379.out 2).trans rfl, (blk_cell BK386.out 0).trans rfl, (blk_cell BK386.out 1).trans rfl, (blk_cell BK386.out 2).trans rfl⟩ (fun hHeld => ?_)
    clear hK K
    refine norm_ (a' := ?_) ?_ ?_
    rotate_left
    ·
     show Act.put _ (some 41) _ = _
     simp only [Act.put, zba1, zba2, zba3, i64_w, i32_w]
     rfl
    refine one_ (i := 12) (N := some 43) zbaz13 rfl rfl (one_of HT_.out (by kernel_rfl)) (by decide) (fun K hK => ?_)
    refine goes_ Tryz.func27 (by kernel_rfl) rfl #[.agg #[.int .i64 t387, .int .i64 t388, .slice Ao38 t389.length co38], .agg #[.int .i64 t366, .int .i64 t367, .slice Ao21 t368.length co21]] (by rfl) rfl rfl (by (try simp only [List.map_toArray, List.map_cons, List.map_nil]); try rfl) ?_
    with_reducible refine (annuitantlaw36_sameFile.calls k t387 t388 _ _ t389 t366 t367 _ _ t368 true _ ?side1 ?side2 ?side3 ?side4 A9.out).mono ?_
    (case side1 => repeat (first | exact (Kd.V_reads' HO391.out).2.2 | (with_reducible refine Kd.C_alloc ?_ _) | (with_reducible refine Kd.C_drewN ?_ _) | (with_reducible refine Kd.C_drew ?_)))
    (case side2 => exact (Kd.V_reads' HO391.out).2.1)
    (case side3 => repeat (first | exact (Kd.R_reads' HO370.out).2.2 | (with_reducible refine Kd.C_alloc ?_ _) | (with_reducible refine Kd.C_drewN ?_ _) | (with_reducible refine Kd.C_drew ?_)))
    (case side4 => exact (Kd.R_reads' HO370.out).2.1)
    rintro e w39 ⟨rfl, hb⟩
    refine ⟨_, rfl, ?_⟩
    have n0_ := Aside0.mk (Kd.R_below (zR HO363) hb)
    have n1_ := Aside0.mk (Kd.R_below (zR HO370) hb)
    have n2_ := Aside0.mk (Kd.R_below (zR HO377) hb)
    have n3_ := Aside0.mk (Kd.R_below (zR HO384) hb)
    have n4_ := Aside0.mk (Kd.V_below (zV HO391) hb)
    have n5_ := zKb BK365 hb
    have n6_ := zKb BK372 hb
    have n7_ := zKb BK379 hb
    have n8_ := zKb BK386 hb
    have n9_ := zBs hb; clear HO363; clear HO370; clear HO377; clear HO384; clear HO391; clear BK365; clear BK372; clear BK379; clear BK386; clear HB; have HO363 := n0_; have HO370 := n1_; have HO377 := n2_; have HO384 := n3_; have HO391 := n4_; have BK365 := n5_; have BK372 := n6_; have BK379 := n7_; have BK386 := n8_; have HB := n9_; clear n0_ n1_ n2_ n3_ n4_ n5_ n6_ n7_ n8_ n9_
    (try clear hb)
    (try clear hb2)
    (try clear hk)
    (try clear hi)
    refine hK.out _ _ ⟨(blk_cell BK365.out 0).trans rfl, (blk_cell BK365.out 1).trans rfl, (blk_cell BK365.out 2).trans rfl, (blk_cell BK372.out 0).trans rfl, (blk_cell BK372.out 1).trans rfl, (blk_cell BK372.out 2).trans rfl, (blk_cell BK379.out 0).trans rfl, (blk_cell BK379.out 1).trans rfl, (blk_cell BK379.out 2).trans rfl, (blk_cell BK386.out 0).trans rfl, (blk_cell BK386.out 1).trans rfl, (blk_cell BK386.out 2).trans rfl⟩ (fun hHeld => ?_)
    clear hK K
    refine norm_ (a' := ?_) ?_ ?_
    rotate_left
    ·
     show Act.put _ (some 43) _ = _
     simp only [Act.put, zba1, zba2, zba3, i64_w, i32_w]
     rfl
    refine zbap 13 (some 44) zbaz14 rfl rfl (any_of HT_.out (by kernel_rfl)) zbaq (Or.inl ⟨by rfl, by intro w'; go_simp; with_reducible rfl⟩) (by simp only [Act.put, zba1, zba2, zba3, i64_w, i32_w]; rfl) ?_
    refine zbap 14 (some 45) zbaz15 rfl rfl (any_of HT_.out (by kernel_rfl)) zbaq (Or.inl ⟨by rfl, by intro w'; go_simp; with_reducible rfl⟩) (by simp only [Act.put, zba1, zba2, zba3, i64_w, i32_w]; rfl) ?_
    refine take_ (i := 15) (N := some 46) (v := ?_) (a' := ?_) zbaz16 rfl rfl (take_ofW HT_.out HW_.out (by kernel_rfl)) (fun _ _ _ h => h) (Or.inl ⟨by rfl, ?_⟩) hHeld ?_ ?_
    rotate_left
    ·
     rintro w' ⟨s0, s1, s2, s3, s4, s5, s6, s7, s8, s9, s10, s11⟩
     go_simp
     with_reducible rfl
    rotate_left
    · simp only [Act.put, zba1, zba2, zba3, i64_w, i32_w]; rfl
    refine take_ (i := 17) (N := some 48) (v := ?_) (a' := ?_) zbaz17 rfl rfl (take_ofW HT_.out HW_.out (by kernel_rfl)) (fun _ _ _ h => h) (Or.inl ⟨by rfl, ?_⟩) hHeld ?_ ?_
    rotate_left
    ·
     rintro w' ⟨s0, s1, s2, s3, s4, s5, s6, s7, s8, s9, s10, s11⟩
     go_simp
     with_reducible rfl
    rotate_left
    · simp only [Act.put, zba1, zba2, zba3, i64_w, i32_w]; rfl
    refine one_ (i := 16) (N := some 47) zbaz18 rfl rfl (one_of HT_.out (by kernel_rfl)) (by decide) (fun K hK => ?_)
    refine goes_ Tryz.func16 (by kernel_rfl) rfl #[.agg #[.int .i64 t373, .int .i64 t374, .slice Ao27 t375.length co27]] (by rfl) rfl rfl (by (try simp only [List.map_toArray, List.map_cons, List.map_nil]); try rfl) ?_
    with_reducible refine (annuitantlaw36_old.calls k t373 t374 _ _ t375 t393 t394 t395 _ ?side1 ?side2 A11.out).mono ?_
    (case side1 => repeat (first | exact (Kd.R_reads' HO377.out).2.2 | (with_reducible refine Kd.C_alloc ?_ _) | (with_reducible refine Kd.C_drewN ?_ _) | (with_reducible refine Kd.C_drew ?_)))
    (case side2 => exact (Kd.R_reads' HO377.out).2.1)
    rintro e w40 ⟨v396, rfl, ho0, hb⟩
    refine ⟨_, rfl, ?_⟩
    have n0_ := Aside0.mk (Kd.R_below (zR HO363) hb)
    have n1_ := Aside0.mk (Kd.R_below (zR HO370) hb)
    have n2_ := Aside0.mk (Kd.R_below (zR HO377) hb)
    have n3_ := Aside0.mk (Kd.R_elder' (zR HO384) (Kd.R_base ho0) hb)
    have n4_ := Aside0.mk (Kd.V_elder' (zV HO391) (Kd.R_base ho0) hb)
    have n5_ := Aside0.mk (Kd.R_lower (Kd.R_new' ho0 (Kd.R_lt (zR HO384))) (below_size zB))
    have n6_ := zKb BK365 hb
    have n7_ := zKb BK372 hb
    have n8_ := zKb BK379 hb
    have n9_ := zKb BK386 hb
    have n10_ := zBs hb; clear HO363; clear HO370; clear HO377; clear HO384; clear HO391; clear BK365; clear BK372; clear BK379; clear BK386; clear HB; have HO363 := n0_; have HO370 := n1_; have HO377 := n2_; have HO384 := n3_; have HO391 := n4_; have HO397 := n5_; have BK365 := n6_; have BK372 := n7_; have BK379 := n8_; have BK386 := n9_; have HB := n10_; clear n0_ n1_ n2_ n3_ n4_ n5_ n6_ n7_ n8_ n9_ n10_
    (try clear hb)
    (try clear hb2)
    (try clear hk)
    (try clear hi)
    (try clear ho0)
    obtain ⟨Ao41, co41, eo41⟩ := Kd.R_slice HO397.out
    (first | subst eo41 | (injection eo41 with f1_ f2_ f3_; have f4_ := f1_.symm; have f5_ := f3_.symm; clear f1_ f2_ f3_; subst f4_; subst f5_))
    refine hK.out _ _ ⟨(blk_cell BK365.out 0).trans rfl, (blk_cell BK365.out 1).trans rfl, (blk_cell BK365.out 2).trans rfl, (blk_cell BK372.out 0).trans rfl, (blk_cell BK372.out 1).trans rfl, (blk_cell BK372.out 2).trans rfl, (blk_cell BK379.out 0).trans rfl, (blk_cell BK379.out 1).trans rfl, (blk_cell BK379.out 2).trans rfl, (blk_cell BK386.out 0).trans rfl, (blk_cell BK386.out 1).trans rfl, (blk_cell BK386.out 2).trans rfl⟩ (fun hHeld => ?_)
    clear hK K
    refine norm_ (a' := ?_) ?_ ?_
    rotate_left
    ·
     show Act.put _ (some 47) _ = _
     simp only [Act.put, zba1, zba2, zba3, i64_w, i32_w]
     rfl
    refine one_ (i := 18) (N := some 49) zbaz19 rfl rfl (one_of HT_.out (by kernel_rfl)) (by decide) (fun K hK => ?_)
    refine goes_ Tryz.func30 (by kernel_rfl) rfl #[.agg #[.int .i64 t393, .int .i64 t394, .slice Ao41 t395.length co41], .agg #[.int .i64 t380, .int .i64 t381, .slice Ao34 t382.length co34]] (by rfl) rfl rfl (by (try simp only [List.map_toArray, List.map_cons, List.map_nil]); try rfl) ?_
    with_reducible refine (annuitantlaw36_sameAnswer.calls k t393 t394 _ _ t395 t380 t381 _ _ t382 t398 _ ?side1 ?side2 ?side3 ?side4 A12.out).mono ?_
    (case side1 => repeat (first | exact (Kd.R_reads' HO397.out).2.2 | (with_reducible refine Kd.C_alloc ?_ _) | (with_reducible refine Kd.C_drewN ?_ _) | (with_reducible refine Kd.C_drew ?_)))
    (case side2 => exact (Kd.R_reads' HO397.out).2.1)
    (case side3 => repeat (first | exact (Kd.R_reads' HO384.out).2.2 | (with_reducible refine Kd.C_alloc ?_ _) | (with_reducible refine Kd.C_drewN ?_ _) | (with_reducible refine Kd.C_drew ?_)))
    (case side4 => exact (Kd.R_reads' HO384.out).2.1)
    rintro e w42 ⟨rfl, hb⟩
    refine ⟨_, rfl, ?_⟩
    have n0_ := Aside0.mk (Kd.R_below (zR HO363) hb)
    have n1_ := Aside0.mk (Kd.R_below (zR HO370) hb)
    have n2_ := Aside0.mk (Kd.R_below (zR HO377) hb)
    have n3_ := Aside0.mk (Kd.R_below (zR HO384) hb)
    have n4_ := Aside0.mk (Kd.V_below (zV HO391) hb)
    have n5_ := Aside0.mk (Kd.R_below (zR HO397) hb)
    have n6_ := zKb BK365 hb
    have n7_ := zKb BK372 hb
    have n8_ := zKb BK379 hb
    have n9_ := zKb BK386 hb
    have n10_ := zBs hb; clear HO363; clear HO370; clear HO377; clear HO384; clear HO391; clear HO397; clear BK365; clear BK372; clear BK379; clear BK386; clear HB; have HO363 := n0_; have HO370 := n1_; have HO377 := n2_; have HO384 := n3_; have HO391 := n4_; have HO397 := n5_; have BK365 := n6_; have BK372 := n7_; have BK379 := n8_; have BK386 := n9_; have HB := n10_; clear n0_ n1_ n2_ n3_ n4_ n5_ n6_ n7_ n8_ n9_ n10_
    (try clear hb)
    (try clear hb2)
    (try clear hk)
    (try clear hi)
    refine hK.out _ _ ⟨(blk_cell BK365.out 0).trans rfl, (blk_cell BK365.out 1).trans rfl, (blk_cell BK365.out 2).trans rfl, (blk_cell BK372.out 0).trans rfl, (blk_cell BK372.out 1).trans rfl, (blk_cell BK372.out 2).trans rfl, (blk_cell BK379.out 0).trans rfl, (blk_cell BK379.out 1).trans rfl, (blk_cell BK379.out 2).trans rfl, (blk_cell BK386.out 0).trans rfl, (blk_cell BK386.out 1).trans rfl, (blk_cell BK386.out 2).trans rfl⟩ (fun hHeld => ?_)
    clear hK K
    refine norm_ (a' := ?_) ?_ ?_
    rotate_left
    ·
     show Act.put _ (some 49) _ = _
     simp only [Act.put, zba1, zba2, zba3, i64_w, i32_w]
     rfl
    refine zbap 19 (some 50) zbaz20 rfl rfl (any_of HT_.out (by kernel_rfl)) zbaq (Or.inl ⟨by rfl, by intro w'; go_simp; with_reducible rfl⟩) (by simp only [Act.put, zba1, zba2, zba3, i64_w, i32_w]; rfl) ?_
    refine zbap 20 (some 2) zbaz21 rfl rfl (any_of HT_.out (by kernel_rfl)) zbaq (Or.inl ⟨by rfl, by intro w'; go_simp; with_reducible rfl⟩) (by simp only [Act.put, zba1, zba2, zba3, i64_w, i32_w]; rfl) ?_
    refine done_ (done_of HT_.out (by kernel_rfl)) ?_
    try go_wp2
    go_ret
    exact ⟨zE, zB⟩
   ·
    replace c10 := Bool.eq_false_iff.mpr c10; subst c10
    have H1 : (none) = some r := by rw [if_neg (show ¬ (false = true) by decide)] at H; exact H
    clear H; have H := H1; clear H1
    exact absurd H (by simp)
  ·
   rw [if_neg c7] at H
   exact absurd H (by simp)
 ·
  rw [if_neg c6] at H
  exact absurd H (by simp)
end Go.Proofs.YtndojpcjhkncgaaGreatDoor.Q
end

section
namespace Go.Proofs.YtndojpcjhkncgaaGreatDoor.Q
open Go.RowKit Go.Proofs.YtndojpcjhkncgaaGreatDoorW.PrintWords Go.Proofs.YtndojpcjhkncgaaGreatDoorW.PrintLast Go.Proofs.YtndojpcjhkncgaaGreatDoorW.PrintMore
attribute [local go_sem] max2_int min2_int max_two min_two max_three min_three max_four min_four   -- for this text's walks alone
set_option linter.unusedVariables false
set_option linter.unusedSimpArgs false
def annuitantlaw36_BankReads.f (k : Nat) (a0 : ByteArray) : Option (Bool) := if (a0.size : Int) > 3000 then ((annuitantlaw36_awake.f k).bind fun t399 => (some t399)) else ((annuitantlaw36_reads.f k a0).bind fun t400 => (if t400 = true then ((annuitantref36_End.f k a0).bind fun t401 => (if a0.size + t401.size ≤ 9223372036854775807 then ((annuitantlaw36_reads.f k (a0 ++ t401)).bind fun t402 => (if t402 = true then ((annuitantlaw36_awake.f k).bind fun t403 => (some t403)) else (none))) else (none))) else (none)))
set_option maxHeartbeats 8000000 in
set_option maxRecDepth 100000 in
theorem annuitantlaw36_BankReads.calls (k : Nat) (a0 : ByteArray) (r : Bool) (w : World) (hG : GG w) (h : annuitantlaw36_BankReads.f k a0 = some r) :
  Calls Tryz.prog 3 #[.string a0] w fun e w' => e = .returned (.bool r) ∧ Below w.heap.size w w' := by
 have HG := Aside0.mk hG; clear hG; have HB := Aside0.mk (Below.refl w.heap.size w); have H : (if (a0.size : Int) > 3000 then ((annuitantlaw36_awake.f k).bind fun t399 => (some t399)) else ((annuitantlaw36_reads.f k a0).bind fun t400 => (if t400 = true then ((annuitantref36_End.f k a0).bind fun t401 => (if a0.size + t401.size ≤ 9223372036854775807 then ((annuitantlaw36_reads.f k (a0 ++ t401)).bind fun t402 => (if t402 = true then ((annuitantlaw36_awake.f k).bind fun t403 => (some t403)) else (none))) else (none))) else (none)))) = some r := h; clear h
 by_cases c2 : (a0.size : Int) > 3000
 ·
  rw [if_pos c2] at H
  have c2b0 : decide (3000 < (a0.size : Int)) = true := decide_eq_true c2; have c2b1 : decide (3000 < a0.size) = true := decide_eq_true (by omega); clear c2; replace H := Option.bind_eq_some_iff.mp H; obtain ⟨t399, A30, H⟩ := H; replace H : (some t399) = some r := H; have A3 := Aside0.mk A30; clear A30; obtain rfl := Option.some.inj H
  go_enter Tryz.func3, Tryz.ntmps3
  go_wp2_with (first | ((with_reducible refine gate_callee (f := 9) rfl ?_); refine goesL_ (some 6) rfl rfl Tryz.func9 (by kernel_rfl) rfl #[] rfl (by (try simp only [List.map_toArray, List.map_cons, List.map_nil]); try rfl) ?_; (with_reducible refine (annuitantlaw36_awake.calls k  t399 _ ?side1 A3.out).mono ?_); (case side1 => exact GG.below HG.out zB); rintro e w4 ⟨rfl, hb⟩; refine ⟨_, rfl, ?_⟩; replace HB := zBs hb; (try clear hb); (try clear hb2); (try clear hk); (try clear hi)))
  go_ret
  exact ⟨zE, zB⟩
 ·
  rw [if_neg c2] at H
  have c2b0 : decide (3000 < (a0.size : Int)) = false := decide_eq_false c2; have c2b1 : decide (3000 < a0.size) = false := decide_eq_false (by omega); clear c2; replace H := Option.bind_eq_some_iff.mp H; obtain ⟨t400, A50, H⟩ := H; replace H : (if t400 = true then ((annuitantref36_End.f k a0).bind fun t401 => (if a0.size + t401.size ≤ 9223372036854775807 then ((annuitantlaw36_reads.f k (a0 ++ t401)).bind fun t402 => (if t402 = true then ((annuitantlaw36_awake.f k).bind fun t403 => (some t403)) else (none))) else (none))) else (none)) = some r := H; have A5 := Aside0.mk A50; clear A50
  by_cases c6 : t400 = true
  ·
   subst c6
   have H1 : ((annuitantref36_End.f k a0).bind fun t401 => (if a0.size + t401.size ≤ 9223372036854775807 then ((annuitantlaw36_reads.f k (a0 ++ t401)).bind fun t402 => (if t402 = true then ((annuitantlaw36_awake.f k).bind fun t403 => (some t403)) else (none))) else (none))) = some r := by rw [if_pos rfl] at H; exact H
   clear H; have H := H1; clear H1; replace H := Option.bind_eq_some_iff.mp H; obtain ⟨t401, A70, H⟩ := H; replace H : (if a0.size + t401.size ≤ 9223372036854775807 then ((annuitantlaw36_reads.f k (a0 ++ t401)).bind fun t402 => (if t402 = true then ((annuitantlaw36_awake.f k).bind fun t403 => (some t403)) else (none))) else (none)) = some r := H; have A7 := Aside0.mk A70; clear A70
   by_cases c8 : a0.size + t401.size ≤ 9223372036854775807
   ·
    rw [if_pos c8] at H
    have c8b0 := eq_true c8; have c8b1 : decide (a0.size + t401.size ≤ 9223372036854775807) = true := decide_eq_true c8
    try have c8b2 : (9223372036854775807 < a0.size + t401.size) = False := eq_false (Nat.not_lt.2 c8)
    replace H := Option.bind_eq_some_iff.mp H; obtain ⟨t402, A90, H⟩ := H; replace H : (if t402 = true then ((annuitantlaw36_awake.f k).bind fun t403 => (some t403)) else (none)) = some r := H; have A9 := Aside0.mk A90; clear A90
    by_cases c10 : t402 = true
    ·
     subst c10
     have H1 : ((annuitantlaw36_awake.f k).bind fun t403 => (some t403)) = some r := by rw [if_pos rfl] at H; exact H
     clear H; have H := H1; clear H1; replace H := Option.bind_eq_some_iff.mp H; obtain ⟨t403, A110, H⟩ := H; replace H : (some t403) = some r := H; have A11 := Aside0.mk A110; clear A110; obtain rfl := Option.some.inj H
     go_enter Tryz.func3, Tryz.ntmps3
     go_wp2_with (first | ((with_reducible refine gate_callee (f := 10) rfl ?_); refine goesL_ (some 8) rfl rfl Tryz.func10 (by kernel_rfl) rfl #[.string a0] rfl (by (try simp only [List.map_toArray, List.map_cons, List.map_nil]); try rfl) ?_; (with_reducible refine (annuitantlaw36_reads.calls k a0 true _ ?side1 A5.out).mono ?_); (case side1 => exact GG.below HG.out zB); rintro e w12 ⟨rfl, hb⟩; refine ⟨_, rfl, ?_⟩; replace HB := zBs hb; (try clear hb); (try clear hb2); (try clear hk); (try clear hi)) | (go_at_call 11; (with_reducible refine (annuitantref36_End.calls k a0 t401 _ A7.out).mono ?_); rintro e w' ⟨rfl, ⟨nd, rfl⟩⟩) | (go_at_call 10; (with_reducible refine (annuitantlaw36_reads.calls k (a0 ++ t401) true _ ?side1 A9.out).mono ?_); (case side1 => exact GG.below HG.out zB); rintro e w13 ⟨rfl, hb⟩; replace HB := zBs hb; (try clear hb); (try clear hb2); (try clear hk); (try clear hi)) | (go_at_call 9; (with_reducible refine (annuitantlaw36_awake.calls k  t403 _ ?side1 A11.out).mono ?_); (case side1 => exact GG.below HG.out zB); rintro e w14 ⟨rfl, hb⟩; replace HB := zBs hb; (try clear hb); (try clear hb2); (try clear hk); (try clear hi)))
     go_ret
     exact ⟨zE, zB⟩
    ·
     replace c10 := Bool.eq_false_iff.mpr c10; subst c10
     have H1 : (none) = some r := by rw [if_neg (show ¬ (false = true) by decide)] at H; exact H
     clear H; have H := H1; clear H1
     exact absurd H (by simp)
   ·
    rw [if_neg c8] at H
    exact absurd H (by simp)
  ·
   replace c6 := Bool.eq_false_iff.mpr c6; subst c6
   have H1 : (none) = some r := by rw [if_neg (show ¬ (false = true) by decide)] at H; exact H
   clear H; have H := H1; clear H1
   exact absurd H (by simp)
end Go.Proofs.YtndojpcjhkncgaaGreatDoor.Q
end

section
namespace Go.Proofs.YtndojpcjhkncgaaGreatDoor.Q
open Go Go.RowKit Go.Proofs.YtndojpcjhkncgaaGreatDoorW.PrintWords
set_option linter.unusedVariables false
set_option linter.unusedSimpArgs false
theorem lines_count (t : List UInt8) : (linesOf t).length ≤ t.length + 1 := by
  have h1 := flatL_le' 10 (t.take (t.length - 23))
  rw [List.length_take] at h1
  unfold linesOf
  omega
theorem rdL (a : List Int) (rs : List (List Int)) (i : Nat) (h : i < rs.length) : rd_L6 (a :: rs) ((i + 1 : Nat) : Int) = rs[i] := by
  unfold rd_L6
  rw [show (((i + 1 : Nat) : Int)).toNat = i + 1 from rfl]
  simp [h]
theorem take_more {α β : Type} (f : α → β) (l : List α) (i : Nat) (h : i < l.length) : (l.take i).map f ++ [f l[i]] = (l.take (i + 1)).map f := by
  rw [List.take_add_one, List.getElem?_eq_getElem h, List.map_append]
  rfl
theorem refRead_l0 (t : List UInt8) (a : List Int) (rs : List (List Int)) (h5 : ∀ r ∈ rs, r.length = 5) (hb : rs.length ≤ 1048577) (n d : Int) (res : Int × Int × List S47 × Int)
    (hw : Ev (fun k => (annuitantref36_Write.f k n d (rs.map toOrd)).bind fun bt => (if bt.2 = 0 then (if bt.1.toList = (B t).toList then (some (n, d, rs.map toOrd, 0)) else (some (0, 0, ([] : List (S47)), 362))) else (some (0, 0, ([] : List (S47)), 362)))) res) (dd : Nat) :
    ∀ (i : Nat), i + dd = rs.length → Ev (fun k => annuitantref36_Read.l0 k (B t) (a :: rs) ((i + 1 : Nat) : Int) n d ((rs.take i).map toOrd)) res := by
  induction dd with
  | zero =>
    intro i hi
    rw [List.take_of_length_le (by omega)]
    exact Ev.step (fun k => by rw [annuitantref36_Read.l0]) (Ev.neg (by rw [List.length_cons]; omega) hw)
  | succ dd ih =>
    intro i hi
    have hlt : i < rs.length := by omega
    have hl := h5 _ (List.getElem_mem hlt)
    have hout : ((rs.take i).map toOrd).length < 3518437208883 := by rw [List.length_map, List.length_take]; omega
    refine Ev.step (fun k => by rw [annuitantref36_Read.l0]) (Ev.pos (by rw [List.length_cons]; omega) (Ev.pos (by omega) ?_))
    rw [rdL a rs i hlt]
    refine Ev.pos (by omega) (Ev.pos (by omega) (Ev.pos (by omega) (Ev.pos (by omega) (Ev.pos (by omega) (Ev.pos hout ?_)))))
    rw [w64 (n := ((i + 1 : Nat) : Int) + 1) (by omega) (by omega)]
    have h1 := ih (i + 1) (by omega)
    rw [← take_more toOrd rs i hlt] at h1
    exact h1
theorem refRead_ev (t : List UInt8) (h : t.length ≤ 4611686018427387904) : Ev (fun k => annuitantref36_Read.f k (B t)) (fileR t) := by
  unfold annuitantref36_Read.f
  refine Ev.bind (parse_ev t payL orderW 4 5 h (by omega) (by omega)) ?_
  by_cases hc : readC fileOk t = 0
  · obtain ⟨l, ls, a, rs, h1, h2, h3, h4, h5, h6, h7, h8⟩ := read_text payL orderW (by decide) (by decide) 4 5 t hc
    have hrows : rowsF payL 4 orderW 5 (linesOf t) = some (a, rs) := by rw [h1, rowsF, h2, h3]
    have hp : parseR payL orderW 4 5 t = (a :: rs, 0) := by
      unfold parseR
      rw [if_pos hc, hrows]
    rw [hp]
    have hcount : rs.length ≤ 1048577 := by
      have e1 := scansF_len _ _ _ _ h3
      have e2 := lines_count t
      rw [h1, List.length_cons] at e2
      omega
    refine Ev.pos rfl (Ev.pos (by rw [List.length_cons]; omega) ?_)
    show Ev (fun k => if 0 < ((a.length : Nat) : Int) then (if 1 < ((a.length : Nat) : Int) then annuitantref36_Read.l0 k (B t) (a :: rs) ((0 + 1 : Nat) : Int) (a.getD 0 0) (a.getD 1 0) ((rs.take 0).map toOrd) else none) else none) _
    refine Ev.pos (by omega) (Ev.pos (by omega) (refRead_l0 t a rs (fun r hr => (h7 r hr).1) hcount _ _ _ ?_ rs.length 0 (by omega)))
    obtain ⟨a0, a1, a2, a3, rfl⟩ : ∃ a0 a1 a2 a3, a = [a0, a1, a2, a3] := by
      match a, h5 with
      | [a0, a1, a2, a3], _ => exact ⟨a0, a1, a2, a3, rfl⟩
    show Ev (fun k => (annuitantref36_Write.f k a0 a1 (rs.map toOrd)).bind fun bt => (if bt.2 = 0 then (if bt.1.toList = (B t).toList then (some (a0, a1, rs.map toOrd, 0)) else (some (0, 0, ([] : List (S47)), 362))) else (some (0, 0, ([] : List (S47)), 362)))) _
    refine Ev.bind (refWrite_ev a0 a1 (rs.map toOrd) (by rw [List.length_map]; omega)) ?_
    have hR : fileR t = (if validB a0 a1 (rs.map toOrd) = true then (if a2 = ((rs.map toOrd).length : Int) then (if a3 = netSum (rs.map toOrd) then (a0, a1, rs.map toOrd, (0 : Int)) else (0, 0, [], 362)) else (0, 0, [], 362)) else (0, 0, [], 362)) := by
      unfold fileR
      rw [if_pos hc, h1, fileSt_mk l ls _ rs h2 h3]
      rfl
    unfold writeS
    by_cases v : validB a0 a1 (rs.map toOrd) = true
    · rw [if_pos v]
      refine Ev.pos rfl ?_
      rw [B_list, B_list]
      by_cases e : fileText a0 a1 (rs.map toOrd) = t
      · refine Ev.pos e (Ev.ret ?_)
        rw [← e, fileR_text a0 a1 (rs.map toOrd) v]
      · refine Ev.neg e (Ev.ret ?_)
        have hno : fileR t ≠ (a0, a1, rs.map toOrd, 0) := fun hh => e (fileR_zero t _ _ _ hh).2.1.symm
        rw [hR, if_pos v] at hno ⊢
        by_cases k : a2 = ((rs.map toOrd).length : Int)
        · rw [if_pos k] at hno ⊢
          by_cases s : a3 = netSum (rs.map toOrd)
          · rw [if_pos s] at hno
            exact absurd rfl hno
          · rw [if_neg s]
        · rw [if_neg k]
    · rw [if_neg v, hR, if_neg v]
      exact Ev.neg (by decide) (Ev.now _)
  · have hp : parseR payL orderW 4 5 t = ([], readC fileOk t) := by
      unfold parseR
      rw [if_neg hc]
    have hR : fileR t = (0, 0, [], readC fileOk t) := by
      unfold fileR
      rw [if_neg hc]
    rw [hp, hR]
    exact Ev.neg hc (Ev.now _)
theorem refReadA_l0 (t : List UInt8) (a : List Int) (rs : List (List Int)) (h5 : ∀ r ∈ rs, r.length = 2) (hb : rs.length ≤ 1048577) (n d : Int) (res : Int × Int × List S78 × Int)
    (hw : Ev (fun k => (annuitantref36_WriteAnswer.f k n d ((rs.map toRet).map asRef)).bind fun bt => (if bt.2 = 0 then (if bt.1.toList = (B t).toList then (some (n, d, (rs.map toRet).map asRef, 0)) else (some (0, 0, ([] : List (S78)), 362))) else (some (0, 0, ([] : List (S78)), 362)))) res) (dd : Nat) :
    ∀ (i : Nat), i + dd = rs.length → Ev (fun k => annuitantref36_ReadAnswer.l0 k (B t) (a :: rs) ((i + 1 : Nat) : Int) n d (((rs.take i).map toRet).map asRef)) res := by
  induction dd with
  | zero =>
    intro i hi
    rw [List.take_of_length_le (by omega)]
    exact Ev.step (fun k => by rw [annuitantref36_ReadAnswer.l0]) (Ev.neg (by rw [List.length_cons]; omega) hw)
  | succ dd ih =>
    intro i hi
    have hlt : i < rs.length := by omega
    have hl := h5 _ (List.getElem_mem hlt)
    have hout : (((rs.take i).map toRet).map asRef).length < 8796093022208 := by rw [List.length_map, List.length_map, List.length_take]; omega
    refine Ev.step (fun k => by rw [annuitantref36_ReadAnswer.l0]) (Ev.pos (by rw [List.length_cons]; omega) (Ev.pos (by omega) ?_))
    rw [rdL a rs i hlt]
    refine Ev.pos (by omega) (Ev.pos (by omega) (Ev.pos hout ?_))
    rw [w64 (n := ((i + 1 : Nat) : Int) + 1) (by omega) (by omega)]
    have h1 := ih (i + 1) (by omega)
    rw [← take_more toRet rs i hlt, List.map_append] at h1
    exact h1
theorem refReadAnswer_ev (t : List UInt8) (h : t.length ≤ 4611686018427387904) : Ev (fun k => annuitantref36_ReadAnswer.f k (B t)) ((answerR t).1, (answerR t).2.1, (answerR t).2.2.1.map asRef, (answerR t).2.2.2) := by
  unfold annuitantref36_ReadAnswer.f
  refine Ev.bind (parse_ev t backL returnW 3 2 h (by omega) (by omega)) ?_
  by_cases hc : readC answerOk t = 0
  · obtain ⟨l, ls, a, rs, h1, h2, h3, h4, h5, h6, h7, h8⟩ := read_text backL returnW (by decide) (by decide) 3 2 t hc
    have hrows : rowsF backL 3 returnW 2 (linesOf t) = some (a, rs) := by rw [h1, rowsF, h2, h3]
    have hp : parseR backL returnW 3 2 t = (a :: rs, 0) := by
      unfold parseR
      rw [if_pos hc, hrows]
    rw [hp]
    have hcount : rs.length ≤ 1048577 := by
      have e1 := scansF_len _ _ _ _ h3
      have e2 := lines_count t
      rw [h1, List.length_cons] at e2
      omega
    refine Ev.pos rfl (Ev.pos (by rw [List.length_cons]; omega) ?_)
    show Ev (fun k => if 0 < ((a.length : Nat) : Int) then (if 1 < ((a.length : Nat) : Int) then annuitantref36_ReadAnswer.l0 k (B t) (a :: rs) ((0 + 1 : Nat) : Int) (a.getD 0 0) (a.getD 1 0) (((rs.take 0).map toRet).map asRef) else none) else none) _
    refine Ev.pos (by omega) (Ev.pos (by omega) (refReadA_l0 t a rs (fun r hr => (h7 r hr).1) hcount _ _ _ ?_ rs.length 0 (by omega)))
    obtain ⟨a0, a1, a2, rfl⟩ : ∃ a0 a1 a2, a = [a0, a1, a2] := by
      match a, h5 with
      | [a0, a1, a2], _ => exact ⟨a0, a1, a2, rfl⟩
    show Ev (fun k => (annuitantref36_WriteAnswer.f k a0 a1 ((rs.map toRet).map asRef)).bind fun bt => (if bt.2 = 0 then (if bt.1.toList = (B t).toList then (some (a0, a1, (rs.map toRet).map asRef, 0)) else (some (0, 0, ([] : List (S78)), 362))) else (some (0, 0, ([] : List (S78)), 362)))) _
    refine Ev.bind (refAnswer_ev a0 a1 (rs.map toRet) (by rw [List.length_map]; omega)) ?_
    have hR : answerR t = (if rightB a0 a1 (rs.map toRet) = true then (if a2 = ((rs.map toRet).length : Int) then (a0, a1, rs.map toRet, (0 : Int)) else (0, 0, [], 362)) else (0, 0, [], 362)) := by
      unfold answerR
      rw [if_pos hc, h1, answerSt_mk l ls _ rs h2 h3]
      rfl
    unfold answerS
    by_cases v : rightB a0 a1 (rs.map toRet) = true
    · rw [if_pos v]
      refine Ev.pos rfl ?_
      rw [B_list, B_list]
      by_cases e : answerText a0 a1 (rs.map toRet) = t
      · refine Ev.pos e (Ev.ret ?_)
        rw [← e, answerR_text a0 a1 (rs.map toRet) v]
      · refine Ev.neg e (Ev.ret ?_)
        have hno : answerR t ≠ (a0, a1, rs.map toRet, 0) := fun hh => e (answerR_zero t _ _ _ hh).2.1.symm
        rw [hR, if_pos v] at hno ⊢
        by_cases k : a2 = ((rs.map toRet).length : Int)
        · rw [if_pos k] at hno
          exact absurd rfl hno
        · rw [if_neg k]
          rfl
    · rw [if_neg v, hR, if_neg v]
      exact Ev.neg (by decide) (Ev.now _)
  · have hp : parseR backL returnW 3 2 t = ([], readC answerOk t) := by
      unfold parseR
      rw [if_neg hc]
    have hR : answerR t = (0, 0, [], readC answerOk t) := by
      unfold answerR
      rw [if_neg hc]
    rw [hp, hR]
    exact Ev.neg hc (Ev.now _)
theorem fileR_len (t : List UInt8) (n d : Int) (L : List S47) (e : Int) (h : fileR t = (n, d, L, e)) : L.length ≤ 1000 := by
  by_cases he : e = 0
  · subst he
    obtain ⟨v, _, _⟩ := fileR_zero t n d L h
    obtain ⟨_, hl, _⟩ := valid_orders v
    omega
  · obtain ⟨_, _, rfl⟩ := fileR_else t n d L e h he
    exact Nat.zero_le _
theorem answerR_len (t : List UInt8) (n d : Int) (L : List S49) (e : Int) (h : answerR t = (n, d, L, e)) : L.length ≤ 1000 := by
  by_cases he : e = 0
  · subst he
    obtain ⟨v, _, _⟩ := answerR_zero t n d L h
    obtain ⟨_, _, hl⟩ := right_parts v
    omega
  · obtain ⟨_, _, rfl⟩ := answerR_else t n d L e h he
    exact Nat.zero_le _
theorem reads_ev (t : List UInt8) (h : t.length ≤ 4611686018427387904) : Ev (fun k => annuitantlaw36_reads.f k (B t)) true := by
  unfold annuitantlaw36_reads.f
  refine Ev.bind (Read_ev t h) (Ev.bind (refRead_ev t h) (Ev.bind (ReadAnswer_ev t h) (Ev.bind (refReadAnswer_ev t h) ?_)))
  obtain ⟨⟨n, d, L, e⟩, hf⟩ : ∃ x, fileR t = x := ⟨_, rfl⟩
  obtain ⟨⟨n2, d2, R, e2⟩, ha⟩ : ∃ x, answerR t = x := ⟨_, rfl⟩
  have h1 := fileR_len t n d L e hf
  have h2 := answerR_len t n2 d2 R e2 ha
  rw [hf, ha]
  refine Ev.pos rfl (Ev.pos rfl (Ev.const (show annuitantlaw36_plain.f n d L = some (n, d, L) from rfl) (Ev.bind (sameFile_ev n d L (by omega)) (Ev.pos rfl (Ev.bind (old_ev n2 d2 R (by omega)) (Ev.bind (sameAnswer_ev n2 d2 (R.map asRef) (by rw [List.length_map]; omega)) (Ev.now true)))))))
theorem reads_law_ev (t : List UInt8) (h : t.length ≤ 4611686018427387904) : Ev (fun k => annuitantlaw36_BankReads.f k (B t)) true := by
  unfold annuitantlaw36_BankReads.f
  by_cases h1 : ((B t).size : Int) > 3000
  · exact Ev.pos h1 (Ev.bind awake_ev (Ev.now true))
  · have hl : t.length ≤ 3000 := by rw [B_size] at h1; omega
    refine Ev.neg h1 (Ev.bind (reads_ev t h) (Ev.pos rfl (Ev.bind (refEnd_ev t (by omega)) (Ev.pos (by rw [B_size, B_size, endL_len]; omega) ?_))))
    rw [B_cat]
    exact Ev.bind (reads_ev _ (by rw [List.length_append, endL_len]; omega)) (Ev.pos rfl (Ev.bind awake_ev (Ev.now true)))
end Go.Proofs.YtndojpcjhkncgaaGreatDoor.Q
end

section
namespace Go.Proofs.YtndojpcjhkncgaaGreatDoor.Q
open Go Go.RowKit Go.Deep Go.Proofs.YtndojpcjhkncgaaGreatDoorW.PrintWords Go.Proofs.YtndojpcjhkncgaaGreatDoorW.PrintLast
set_option linter.unusedVariables false
set_option linter.unusedSimpArgs false
def Opens (P : Program) (t : TypeId) {α : Type} (d : Kd α) (S : α → Prop) : Prop :=
  ∀ {H : Type} {enc : TypeId × Value → H} {W : World} {fuel : Nat} {cs : List Value} {x : DataW H × List MemPlace},
    DataW.trod enc P W 0 (fun _ => true) true fuel t cs = some x → (x.1.weights P t).all (· ≤ reachBytes) = true → ∃ a, d.K W a cs ∧ S a
variable {P : Program} {t : TypeId}
theorem opens_string (ht : P.underlying t = some .string) : Opens P t Kd.string (fun s => s.size ≤ reachBytes) := by
  intro H enc W fuel cs x h hs
  obtain ⟨s, rfl, rfl, _⟩ := DataW.trod_string ht h
  refine ⟨s, rfl, ?_⟩
  simpa [DataW.weights] using hs
theorem open_arg {H : Type} {enc : TypeId × Value → H} {W : World} {α : Type} {d : Kd α} {S : α → Prop} {v : Value} {x : DataW H} {p : List MemPlace} (h : Opens P t d S) (hx : DataW.Trod enc P W 0 (fun _ => true) true t v x p) (hs : (x.weights P t).all (· ≤ reachBytes) = true) :
    ∃ a, d.K W a v.cells.toList ∧ S a := by
  obtain ⟨fuel, hf⟩ := hx
  exact h hf hs
theorem arg_lt {H : Type} {enc : TypeId × Value → H} {W : World} {v : Value} {x : DataW H} {p : List MemPlace} (hx : DataW.Trod enc P W 0 (fun _ => true) true t v x p) : ∀ y ∈ p, y.block < W.heap.size := by
  obtain ⟨m, hm⟩ := hx
  exact DataW.trod_lt m _ _ _ hm
theorem weights_at {H : Type} {ts : List TypeId} {ds : List (DataW H)} {j : Nat} {d : DataW H} (h : (DataW.weightsEach P ts ds).all (· ≤ reachBytes) = true) (ht : ts[j]? = some t) (hd : ds[j]? = some d) : (d.weights P t).all (· ≤ reachBytes) = true := by
  rw [List.all_eq_true] at h ⊢
  intro n hn
  exact h n (DataW.weights_mem_each ht hd n hn)
end Go.Proofs.YtndojpcjhkncgaaGreatDoor.Q
end

section
/- The arguments of the laws on files and answers, opened. -/
end

section
namespace Go.Proofs.YtndojpcjhkncgaaGreatDoor.Q
open Go Go.RowKit
set_option linter.unusedVariables false
set_option linter.unusedSimpArgs false
def laidAll : List (String × DataW Unit) := [("math/bits.deBruijn32tab", Rows.laid_math_bits_deBruijn32tab), ("math/bits.deBruijn64tab", Rows.laid_math_bits_deBruijn64tab), ("internal/strconv.uint64pow10", Rows.laid_internal_strconv_uint64pow10), ("unicode/utf8.acceptRanges", Rows.laid_unicode_utf8_acceptRanges), ("strconv.ErrRange", Rows.laid_strconv_ErrRange), ("strconv.ErrSyntax", Rows.laid_strconv_ErrSyntax), ("unicode/utf8.first", Rows.laid_unicode_utf8_first)]
theorem laid_pow : Rows.laid_internal_strconv_uint64pow10 (H := Unit) = Lib.tabData .u64 Lib.pow10Tab := by kernel_rfl
theorem laid_low : Rows.laid_math_bits_deBruijn64tab (H := Unit) = Lib.tabData .u8 (Lib.deBruijn64tab.map fun (n : Nat) => (n : Int)) := by kernel_rfl
theorem row_err (u : TypeId) (h : Tryz.prog.typeName? 3 u = some "*errors.errorString") : u = 185 :=
  typeName_ptr_named (nm := "errors.errorString") (by kernel_rfl) (by kernel_rfl) (by decide) u h
theorem var_cell {w : World} {n : String} {g : Nat} {v : Value} (hg : Tryz.prog.globalNamed n = some g) (h : w.var? Tryz.prog n = some #[v]) : w.cell? ⟨g, 0, none⟩ = some v := by
  simpa using World.var?_cell hg h 0
theorem gg_of_laid {W : World} (h : laidMetH Tryz.prog laidAll W) (hs : W.ShapedOpen Tryz.prog) : GG W := by
  rw [MakeChecks.laidMetH_plain _ _ _ (by kernel_rfl)] at h
  have h1 := h.tail
  have h2 := h1.tail
  have h4 := h2.tail.tail
  have h5 := h4.tail
  rw [laid_low] at h1
  rw [laid_pow] at h2
  refine ⟨Lib.tabIs_of_head (P := Tryz.prog) (t := 163) (e := 127) (n := 20) named_pow (by kernel_rfl) (by kernel_rfl) (by kernel_rfl) (by kernel_rfl) (by kernel_rfl) h2, Lib.tabIs_of_head (P := Tryz.prog) (t := 189) (e := 5) (n := 64) named_low (by kernel_rfl) (by kernel_rfl) (by kernel_rfl) (by kernel_rfl) (by kernel_rfl) h1, ?_, ?_, ?_⟩
  · obtain ⟨a, s, hv, _⟩ := laid_sentinel h5 (show Tryz.prog.globalNamed "strconv.ErrSyntax" = some 2 by kernel_rfl) (show _ = some 102 by kernel_rfl) Tryz.underlying102 row_err Tryz.underlying185 Tryz.underlying187 rfl rfl Tryz.underlying9 (by kernel_rfl) (by kernel_rfl)
    exact ⟨_, var_cell (by kernel_rfl) hv, .inr ⟨_, _, rfl⟩⟩
  · obtain ⟨a, s, hv, _⟩ := laid_sentinel h4 (show Tryz.prog.globalNamed "strconv.ErrRange" = some 3 by kernel_rfl) (show _ = some 102 by kernel_rfl) Tryz.underlying102 row_err Tryz.underlying185 Tryz.underlying187 rfl rfl Tryz.underlying9 (by kernel_rfl) (by kernel_rfl)
    exact ⟨_, var_cell (by kernel_rfl) hv, .inr ⟨_, _, rfl⟩⟩
  · exact cell_of_shapedOpen_int (g := 1) (t := 3) (zero := #[.int .i64 0]) hs (of_decide_eq_true (by kernel_rfl)) (by kernel_rfl) rfl (by kernel_rfl) (by kernel_rfl) Tryz.underlying3
def firstCells : Array Value := (match Rows.laid_unicode_utf8_first with
  | .agg ds => ds.map fun (d : DataW Unit) => match d with
    | .lit (.int k n) => Value.int k n
    | _ => .nilIface
  | _ => []).toArray
noncomputable def doorZ (os : Os) : World :=
  { World.doorLaid Tryz.prog 72 os with heap := (World.doorLaid Tryz.prog 72 os).heap.modify 4 fun
      | .cells _ t fz => .cells firstCells t fz
      | o => o }
theorem door_met (os : Os) (args : Array Value) : laidMetH Tryz.prog laidAll ((doorZ os).forCall (fun _ _ => 0) ⟨#[], args, []⟩).memory :=
  laidMetH_of_parts3 (fuel := 8) (laidMet_of_run' 8 (by kernel_rfl) (by kernel_rfl)) (by kernel_rfl) (by kernel_rfl)
theorem own : ownKnob Tryz.prog.godebug = none := by kernel_rfl
theorem laidOut : laidOutB Tryz.prog = true := by kernel_rfl
end Go.Proofs.YtndojpcjhkncgaaGreatDoor.Q
end
