/- Part 5 of a proof: the texts QFlaw36awake, SAwake, QFlaw36plain, QFlaw36reads, QFlaw36BankReads, SReads, QFlaw36limits, SLim, put together by a program of this repo. -/
import Derived.Test.YtndojpcjhkncgaaGreatDoorMSmall1
import Derived.Test.YtndojpcjhkncgaaGreatDoorMSmall4
import Derived.Test.YtndojpcjhkncgaaGreatDoorMSmall2
import Derived.Test.YtndojpcjhkncgaaGreatDoorMSmall3
set_option linter.unusedVariables false
set_option linter.unusedSimpArgs false
section
namespace Go.Proofs.YtndojpcjhkncgaaGreatDoor.Q
open Go.RowKit Go.Proofs.YtndojpcjhkncgaaGreatDoorW.PrintWords Go.Proofs.YtndojpcjhkncgaaGreatDoorW.PrintLast Go.Proofs.YtndojpcjhkncgaaGreatDoorW.PrintMore
section
attribute [local go_sem high] eqA47
def aL_awake.f (k : Nat)  : Option (Bool) := (aL_two.f).bind fun bt152 => ((bank_Total.f k bt152.1 bt152.2.1 bt152.2.2.1).bind fun bt164 => ((bank_Write.f k bt152.1 bt152.2.1 bt152.2.2.1).bind fun bt166 => ((bank_WriteAnswer.f k bt152.2.2.2.1 bt152.2.2.2.2.1 bt152.2.2.2.2.2).bind fun bt168 => ((bank_Match.f k bt152.1 bt152.2.1 bt152.2.2.1 bt152.2.2.2.1 bt152.2.2.2.2.1 bt152.2.2.2.2.2).bind fun bt170 => ((bank_Write.f k 1 0 ([] : List (S47))).bind fun bt174 => (if bt164.2 = 0 then (if bt164.1 = 850 then (if bt166.2 = 0 then (if bt168.2 = 0 then (if (bt166.1.size : Int) = 81 then (if (bt168.1.size : Int) = 46 then (if 0 ≤ 63 then (if 63 ≤ (bt166.1.size : Int) then (if (bt166.1.extract 0 63).toList = ([80, 65, 89, 32, 55, 32, 49, 48, 48, 32, 50, 32, 56, 53, 48, 10, 111, 114, 100, 101, 114, 32, 51, 32, 53, 53, 32, 49, 48, 48, 48, 32, 50, 48, 48, 32, 56, 48, 48, 10, 111, 114, 100, 101, 114, 32, 52, 32, 53, 54, 32, 53, 48, 32, 48, 32, 53, 48, 10, 69, 78, 68, 32] : List UInt8) then (if 0 ≤ 28 then (if 28 ≤ (bt168.1.size : Int) then (if (bt168.1.extract 0 28).toList = ([66, 65, 67, 75, 32, 55, 32, 49, 48, 50, 32, 49, 10, 114, 101, 116, 117, 114, 110, 32, 52, 32, 50, 10, 69, 78, 68, 32] : List UInt8) then (if bt170.2 = 0 then (if (bt170.1.length : Int) = 1 then (if 0 < (bt170.1.length : Int) then (if 1 < (bt152.2.2.1.length : Int) then (if (((rTO bt170.1 0).f0) == ((rTO bt152.2.2.1 1).f0) && (((rTO bt170.1 0).f1) == ((rTO bt152.2.2.1 1).f1) && (((rTO bt170.1 0).f2) == ((rTO bt152.2.2.1 1).f2) && (((rTO bt170.1 0).f3) == ((rTO bt152.2.2.1 1).f3) && (((rTO bt170.1 0).f4) == ((rTO bt152.2.2.1 1).f4)))))) = true then (if bt174.2 = 0 then (some (bt174.1.toList == ([80, 65, 89, 32, 49, 32, 48, 32, 48, 32, 48, 10, 69, 78, 68, 32, 48, 48, 48, 48, 48, 50, 51, 53, 32, 48, 48, 48, 48, 48, 98, 100, 97, 10] : List UInt8))) else (none)) else (none)) else (none)) else (none)) else (none)) else (none)) else (some false)) else (none)) else (none)) else (none)) else (none)) else (none)) else (none)) else (none)) else (none)) else (none)) else (none)) else (none)))))))
set_option maxHeartbeats 8000000 in
set_option maxRecDepth 100000 in
theorem aL_awake.calls (k : Nat)  (r : Bool) (w : World) (hG : GG w) (h : aL_awake.f k  = some r) :
  Calls Tryz.prog 9 #[] w fun e w' => e = .returned (.bool r) ∧ Below w.heap.size w w' := by
 have hu27 := Tryz.underlying27; have hu30 := Tryz.underlying30; have hu47 := Tryz.underlying47; have HG := Zs.mk hG; clear hG; have HB := Zs.mk (Below.refl w.heap.size w); have H : ((aL_two.f).bind fun bt152 => ((bank_Total.f k bt152.1 bt152.2.1 bt152.2.2.1).bind fun bt164 => ((bank_Write.f k bt152.1 bt152.2.1 bt152.2.2.1).bind fun bt166 => ((bank_WriteAnswer.f k bt152.2.2.2.1 bt152.2.2.2.2.1 bt152.2.2.2.2.2).bind fun bt168 => ((bank_Match.f k bt152.1 bt152.2.1 bt152.2.2.1 bt152.2.2.2.1 bt152.2.2.2.2.1 bt152.2.2.2.2.2).bind fun bt170 => ((bank_Write.f k 1 0 ([] : List (S47))).bind fun bt174 => (if bt164.2 = 0 then (if bt164.1 = 850 then (if bt166.2 = 0 then (if bt168.2 = 0 then (if (bt166.1.size : Int) = 81 then (if (bt168.1.size : Int) = 46 then (if 0 ≤ 63 then (if 63 ≤ (bt166.1.size : Int) then (if (bt166.1.extract 0 63).toList = ([80, 65, 89, 32, 55, 32, 49, 48, 48, 32, 50, 32, 56, 53, 48, 10, 111, 114, 100, 101, 114, 32, 51, 32, 53, 53, 32, 49, 48, 48, 48, 32, 50, 48, 48, 32, 56, 48, 48, 10, 111, 114, 100, 101, 114, 32, 52, 32, 53, 54, 32, 53, 48, 32, 48, 32, 53, 48, 10, 69, 78, 68, 32] : List UInt8) then (if 0 ≤ 28 then (if 28 ≤ (bt168.1.size : Int) then (if (bt168.1.extract 0 28).toList = ([66, 65, 67, 75, 32, 55, 32, 49, 48, 50, 32, 49, 10, 114, 101, 116, 117, 114, 110, 32, 52, 32, 50, 10, 69, 78, 68, 32] : List UInt8) then (if bt170.2 = 0 then (if (bt170.1.length : Int) = 1 then (if 0 < (bt170.1.length : Int) then (if 1 < (bt152.2.2.1.length : Int) then (if (((rTO bt170.1 0).f0) == ((rTO bt152.2.2.1 1).f0) && (((rTO bt170.1 0).f1) == ((rTO bt152.2.2.1 1).f1) && (((rTO bt170.1 0).f2) == ((rTO bt152.2.2.1 1).f2) && (((rTO bt170.1 0).f3) == ((rTO bt152.2.2.1 1).f3) && (((rTO bt170.1 0).f4) == ((rTO bt152.2.2.1 1).f4)))))) = true then (if bt174.2 = 0 then (some (bt174.1.toList == ([80, 65, 89, 32, 49, 32, 48, 32, 48, 32, 48, 10, 69, 78, 68, 32, 48, 48, 48, 48, 48, 50, 51, 53, 32, 48, 48, 48, 48, 48, 98, 100, 97, 10] : List UInt8))) else (none)) else (none)) else (none)) else (none)) else (none)) else (none)) else (some false)) else (none)) else (none)) else (none)) else (none)) else (none)) else (none)) else (none)) else (none)) else (none)) else (none)) else (none)))))))) = some r := h; clear h; obtain ⟨⟨t152, t153, t154, t157, t158, t159⟩, A1, H⟩ := zb H; (try dsimp only [-Int.reduceToNat] at H); obtain ⟨⟨t164, t165⟩, A2, H⟩ := zb H; (try dsimp only [-Int.reduceToNat] at H); obtain ⟨⟨t166, t167⟩, A3, H⟩ := zb H; (try dsimp only [-Int.reduceToNat] at H); obtain ⟨⟨t168, t169⟩, A4, H⟩ := zb H; (try dsimp only [-Int.reduceToNat] at H); obtain ⟨⟨t170, t173⟩, A5, H⟩ := zb H; (try dsimp only [-Int.reduceToNat] at H); obtain ⟨⟨t174, t175⟩, A6, H⟩ := zb H; (try dsimp only [-Int.reduceToNat] at H)
 have c7 := zc H
 rw [if_pos c7] at H
 obtain ⟨c7b0, c7b1⟩ := zeq c7; clear c7
 have c8 := zc H
 rw [if_pos c8] at H
 obtain ⟨c8b0, c8b1⟩ := zeq c8; clear c8
 have c9 := zc H
 rw [if_pos c9] at H
 obtain ⟨c9b0, c9b1⟩ := zeq c9; clear c9
 have c10 := zc H
 rw [if_pos c10] at H
 obtain ⟨c10b0, c10b1⟩ := zeq c10; clear c10
 have c11 := zc H
 rw [if_pos c11] at H
 obtain ⟨c11b0, c11b1⟩ := zeq c11; clear c11
 have c12 := zc H
 rw [if_pos c12] at H
 obtain ⟨c12b0, c12b1⟩ := zeq c12; clear c12
 have c13 := zc H
 rw [if_pos c13] at H
 have c13b0 := eq_true c13; have c13b1 := decide_eq_true c13; clear c13
 have c14 := zc H
 rw [if_pos c14] at H
 have c14b0 := eq_true c14; have c14b1 := decide_eq_true c14; clear c14
 have c15 := zc H
 rw [if_pos c15] at H
 obtain ⟨c15b0, c15b1⟩ := zeq c15; clear c15
 have c16 := zc H
 rw [if_pos c16] at H
 have c16b0 := eq_true c16; have c16b1 := decide_eq_true c16; clear c16
 have c17 := zc H
 rw [if_pos c17] at H
 have c17b0 := eq_true c17; have c17b1 := decide_eq_true c17; clear c17
 by_cases c18 : (t168.extract 0 28).toList = ([66, 65, 67, 75, 32, 55, 32, 49, 48, 50, 32, 49, 10, 114, 101, 116, 117, 114, 110, 32, 52, 32, 50, 10, 69, 78, 68, 32] : List UInt8)
 ·
  rw [if_pos c18] at H
  obtain ⟨c18b0, c18b1⟩ := zeq c18; clear c18
  have c19 := zc H
  rw [if_pos c19] at H
  obtain ⟨c19b0, c19b1⟩ := zeq c19; clear c19
  have c20 := zc H
  rw [if_pos c20] at H
  obtain ⟨c20b0, c20b1⟩ := zeq c20; clear c20
  have c21 := zc H
  rw [if_pos c21] at H
  have c21b0 := decide_eq_true c21; have c21b1 : decide (0 < t170.length) = true := decide_eq_true (by omega); clear c21
  have c22 := zc H
  rw [if_pos c22] at H
  have c22b0 := decide_eq_true c22; have c22b1 : decide (1 < t154.length) = true := decide_eq_true (by omega); clear c22
  have c23 := zc H
  rw [if_pos c23] at H
  have c23b0 : (((rTO t170 0).f0) == ((rTO t154 1).f0) && (((rTO t170 0).f1) == ((rTO t154 1).f1) && (((rTO t170 0).f2) == ((rTO t154 1).f2) && (((rTO t170 0).f3) == ((rTO t154 1).f3) && (((rTO t170 0).f4) == ((rTO t154 1).f4)))))) = true := c23
  (try (have c23b1 : decide (((rTO t170 0).f0) = ((rTO t154 1).f0) && (((rTO t170 0).f1) == ((rTO t154 1).f1) && (((rTO t170 0).f2) == ((rTO t154 1).f2) && (((rTO t170 0).f3) == ((rTO t154 1).f3) && (((rTO t170 0).f4) == ((rTO t154 1).f4)))))) = true := by simpa using c23))
  (try (have c23b2 : (((rTO t170 0).f0) == ((rTO t154 1).f0) && (((rTO t170 0).f1) == ((rTO t154 1).f1) && (((rTO t170 0).f2) == ((rTO t154 1).f2) && (((rTO t170 0).f3) == ((rTO t154 1).f3) && (((rTO t170 0).f4) == ((rTO t154 1).f4)))))) = true := by simpa using c23))
  clear c23
  have c24 := zc H
  rw [if_pos c24] at H
  obtain ⟨c24b0, c24b1⟩ := zeq c24; clear c24; obtain rfl := Option.some.inj H
  go_enter Tryz.func9, Tryz.ntmps9
  go_wp2_with (first | (go_at_call 12; (with_reducible refine (aL_two.calls  t152 t153 t154 t157 t158 t159 _ A1.out).mono ?_); rintro e w25 ⟨v155, v160, rfl, ho0, ho1, hb⟩; have HO156 := Zs.mk (Kd.R_lower ho0 (bsz zB)); have HO161 := Zs.mk (Kd.R_lower ho1 (bsz zB)); replace HB := zBs hb) | ((with_reducible refine gkd (N := 1) rfl ?_); (try (refine gate_guard (by rfl) ?_; dsimp only)); refine bxe ?hg (N := 1) ?hd (cs := #[.int .i64 0, .int .i64 0, .slice none 0 0]) (t := 27) ?hr ?_; (case hd => rfl); (case hg => rfl); (case hr => first | (go_simp; done) | (go_simp; rfl)); intro gb162 hg w26 hbox hb; replace HO156 := zRb HO156 hb; replace HO161 := zRb HO161 hb; have BK162 := Zs.mk (hbox); have GW162 := zG (w := w) hg; have GE162 := zG (w := w) hg; replace HB := zBs hb; clear hb hbox hg) | ((with_reducible refine gkd (N := 2) rfl ?_); (try (refine gate_guard (by rfl) ?_; dsimp only)); refine bxe ?hg (N := 2) ?hd (cs := #[.int .i64 0, .int .i64 0, .slice none 0 0]) (t := 30) ?hr ?_; (case hd => rfl); (case hg => rfl); (case hr => first | (go_simp; done) | (go_simp; rfl)); intro gb163 hg w27 hbox hb; replace HO156 := zRb HO156 hb; replace HO161 := zRb HO161 hb; have BK163 := Zs.mk (hbox); have GW163 := zG (w := w) hg; have GE163 := zG (w := w) hg; replace HB := zBs hb; have NB162_163 := zN hg (zK BK162); have NB163_162 := zM hg (zK BK162); replace BK162 := zKb BK162 hb; clear hb hbox hg; have hnb28 := NB162_163.out; have hnc28 := NB163_162.out; obtain ⟨hcz29_0, hcz29_1, hcz29_2⟩ := zC3 BK162; obtain ⟨hfz29_0, hfz29_1, hfz29_2⟩ := zZ3 BK162; obtain ⟨Ao30, co30, eo30⟩ := Kd.R_slice HO156.out; subst eo30; obtain ⟨hcz31_0, hcz31_1, hcz31_2⟩ := zC3 BK163; obtain ⟨hfz31_0, hfz31_1, hfz31_2⟩ := zZ3 BK163; obtain ⟨Ao32, co32, eo32⟩ := Kd.R_slice HO161.out; subst eo32) | (go_at_call 26; (with_reducible refine (bank_Total.calls k t152 t153 _ _ t154 t164 t165 _ ?side1 ?side2 A2.out).mono ?_); (case side1 => refine (Kd.R_reads' (e := 47) (base := w.heap.size) (ok := fun k_ => True) (n := t154.length) (c := co30) ?_).2.2; exact (by (with_reducible repeat (first | apply Kd.Ral | apply Kd.Rdn | apply Kd.Rdw)); exact (Kd.R_mono (Kd.R_mono (Kd.R_far (p := ⟨gb163, 2, none⟩) (Kd.R_far (p := ⟨gb163, 1, none⟩) (Kd.R_far (p := ⟨gb163, 0, none⟩) (Kd.R_far (p := ⟨gb162, 2, none⟩) (Kd.R_far (p := ⟨gb162, 1, none⟩) (Kd.R_far (p := ⟨gb162, 0, none⟩) (Kd.Rty (Kd.Rty HO156.out BK162.out (by decide)) BK163.out (by decide)) (fun _ hk => hk.1.2) (.int .i64 t152)) (fun _ hk => hk.1.2) (.int .i64 t153)) (fun _ hk => hk.1.2) (.slice Ao30 t154.length co30)) (fun _ hk => hk.2) (.int .i64 t157)) (fun _ hk => hk.2) (.int .i64 t158)) (fun _ hk => hk.2) (.slice Ao32 t159.length co32)) (fun _ h_ => h_.1)) (fun _ h_ => h_.1)))); (case side2 => exact (Kd.R_reads' HO156.out).2.1); rintro e w33 ⟨rfl, hb⟩; replace HO156 := Zs.mk (Kd.R_below (by (with_reducible repeat (first | apply Kd.Ral | apply Kd.Rdn | apply Kd.Rdw)); exact (Kd.R_mono (Kd.R_mono (Kd.R_far (p := ⟨gb163, 2, none⟩) (Kd.R_far (p := ⟨gb163, 1, none⟩) (Kd.R_far (p := ⟨gb163, 0, none⟩) (Kd.R_far (p := ⟨gb162, 2, none⟩) (Kd.R_far (p := ⟨gb162, 1, none⟩) (Kd.R_far (p := ⟨gb162, 0, none⟩) (Kd.Rty (Kd.Rty HO156.out BK162.out (by decide)) BK163.out (by decide)) (fun _ hk => hk.1.2) (.int .i64 t152)) (fun _ hk => hk.1.2) (.int .i64 t153)) (fun _ hk => hk.1.2) (.slice Ao30 t154.length co30)) (fun _ hk => hk.2) (.int .i64 t157)) (fun _ hk => hk.2) (.int .i64 t158)) (fun _ hk => hk.2) (.slice Ao32 t159.length co32)) (fun _ h_ => h_.1)) (fun _ h_ => h_.1))) hb); replace HO161 := Zs.mk (Kd.R_below (by (with_reducible repeat (first | apply Kd.Ral | apply Kd.Rdn | apply Kd.Rdw)); exact (Kd.R_mono (Kd.R_mono (Kd.R_far (p := ⟨gb163, 2, none⟩) (Kd.R_far (p := ⟨gb163, 1, none⟩) (Kd.R_far (p := ⟨gb163, 0, none⟩) (Kd.R_far (p := ⟨gb162, 2, none⟩) (Kd.R_far (p := ⟨gb162, 1, none⟩) (Kd.R_far (p := ⟨gb162, 0, none⟩) (Kd.Rty (Kd.Rty HO161.out BK162.out (by decide)) BK163.out (by decide)) (fun _ hk => hk.1.2) (.int .i64 t152)) (fun _ hk => hk.1.2) (.int .i64 t153)) (fun _ hk => hk.1.2) (.slice Ao30 t154.length co30)) (fun _ hk => hk.2) (.int .i64 t157)) (fun _ hk => hk.2) (.int .i64 t158)) (fun _ hk => hk.2) (.slice Ao32 t159.length co32)) (fun _ h_ => h_.1)) (fun _ h_ => h_.1))) hb); replace BK162 := Zs.mk (blk_below (g := gb162) (o := .cells #[.int .i64 t152, .int .i64 t153, .slice Ao30 t154.length co30] 27 (0, 0)) (zY BK162) hb); replace BK163 := Zs.mk (blk_below (g := gb163) (o := .cells #[.int .i64 t157, .int .i64 t158, .slice Ao32 t159.length co32] 30 (0, 0)) (zY BK163) hb); replace HB := zBs hb; obtain ⟨hcz34_0, hcz34_1, hcz34_2⟩ := zC3 BK162; obtain ⟨hfz34_0, hfz34_1, hfz34_2⟩ := zZ3 BK162) | (go_at_call 23; (with_reducible refine (bank_Write.calls k t152 t153 _ _ t154 t166 t167 _ ?side1 ?side2 ?side3 A3.out).mono ?_); (case side1 => exact zQ HO156); (case side2 => exact (Kd.R_reads' HO156.out).2.1); (case side3 => exact GG.below HG.out zB); rintro e w35 ⟨rfl, hb⟩; replace HO156 := zRb HO156 hb; replace HO161 := zRb HO161 hb; replace BK162 := zKb BK162 hb; replace BK163 := zKb BK163 hb; replace HB := zBs hb; obtain ⟨hcz36_0, hcz36_1, hcz36_2⟩ := zC3 BK163; obtain ⟨hfz36_0, hfz36_1, hfz36_2⟩ := zZ3 BK163) | (go_at_call 29; (with_reducible refine (bank_WriteAnswer.calls k t157 t158 _ _ t159 t168 t169 _ ?side1 ?side2 ?side3 A4.out).mono ?_); (case side1 => exact zQ HO161); (case side2 => exact (Kd.R_reads' HO161.out).2.1); (case side3 => exact GG.below HG.out zB); rintro e w37 ⟨rfl, hb⟩; replace HO156 := zRb HO156 hb; replace HO161 := zRb HO161 hb; replace BK162 := zKb BK162 hb; replace BK163 := zKb BK163 hb; replace HB := zBs hb; obtain ⟨hcz38_0, hcz38_1, hcz38_2⟩ := zC3 BK162; obtain ⟨hfz38_0, hfz38_1, hfz38_2⟩ := zZ3 BK162; obtain ⟨hcz39_0, hcz39_1, hcz39_2⟩ := zC3 BK163; obtain ⟨hfz39_0, hfz39_1, hfz39_2⟩ := zZ3 BK163) | (go_at_call 31; (with_reducible refine (bank_Match.calls k t152 t153 _ _ t154 t157 t158 _ _ t159 t170 t173 _ ?side1 ?side2 ?side3 ?side4 A5.out).mono ?_); (case side1 => exact zQ HO156); (case side2 => exact (Kd.R_reads' HO156.out).2.1); (case side3 => exact zQ HO161); (case side4 => exact (Kd.R_reads' HO161.out).2.1); rintro e w40 ⟨v171, rfl, ho0, hb⟩; replace HO161 := zRb HO161 hb; have HO172 := Zs.mk (Kd.R_lower (Kd.R_new' ho0 (Kd.R_lt (zR HO156))) (bsz zB)); replace HO156 := Zs.mk (Kd.R_elder' (zR HO156) (Kd.R_base ho0) hb); replace BK162 := zKb BK162 hb; replace BK163 := zKb BK163 hb; replace HB := zBs hb) | (go_at_call 23; (refine (bank_Write.calls k 1 0 _ _ ([] : List (S47)) t174 t175 _ ?side1 ?side2 ?side3 A6.out).mono ?_); (case side1 => exact Kd.C_nil _ _); (case side2 => exact Nat.le_refl _); (case side3 => exact GG.below HG.out zB); rintro e w41 ⟨rfl, hb⟩; replace HO156 := zRb HO156 hb; replace HO161 := zRb HO161 hb; replace HO172 := zRb HO172 hb; replace BK162 := zKb BK162 hb; replace BK163 := zKb BK163 hb; replace HB := zBs hb; obtain ⟨Ao42, co42, eo42⟩ := Kd.R_slice HO172.out; subst eo42; have p176 : 0 ≤ (0 : Int) := (by omega); have q176 : 0 < (t170.length : Int) := zD; obtain ⟨ad176, e176, hx176_0, hx176_1, hx176_2, hx176_3, hx176_4⟩ := at_T47 (Kd.R_reads' HO172.out).2.2 0 p176 q176; cases e176; have qi176 : (0 < t170.length) = True := eq_true (by omega); (try rw [show ((0 : Int)).toNat = 0 from rfl] at hx176_0); (try rw [show 0 * 5 = 0 from rfl] at hx176_0); (try rw [Addr.add_zero'] at hx176_0); (try rw [show ((0 : Int)).toNat = 0 from rfl] at hx176_1); (try rw [show 0 * 5 = 0 from rfl] at hx176_1); (try rw [Addr.add_zero'] at hx176_1); (try rw [show ((0 : Int)).toNat = 0 from rfl] at hx176_2); (try rw [show 0 * 5 = 0 from rfl] at hx176_2); (try rw [Addr.add_zero'] at hx176_2); (try rw [show ((0 : Int)).toNat = 0 from rfl] at hx176_3); (try rw [show 0 * 5 = 0 from rfl] at hx176_3); (try rw [Addr.add_zero'] at hx176_3); (try rw [show ((0 : Int)).toNat = 0 from rfl] at hx176_4); (try rw [show 0 * 5 = 0 from rfl] at hx176_4); (try rw [Addr.add_zero'] at hx176_4); replace p176 := eq_true p176; replace q176 := eq_true q176; obtain ⟨hcz43_0, hcz43_1, hcz43_2⟩ := zC3 BK162; obtain ⟨hfz43_0, hfz43_1, hfz43_2⟩ := zZ3 BK162; have p177 : 0 ≤ (1 : Int) := (by omega); have q177 : 1 < (t154.length : Int) := zD; obtain ⟨ad177, e177, hx177_0, hx177_1, hx177_2, hx177_3, hx177_4⟩ := at_T47 (Kd.R_reads' HO156.out).2.2 1 p177 q177; cases e177; (try simp only [show (1 : Int).toNat = 1 from rfl, Nat.reduceMul, Nat.reduceEqDiff, Go.Addr.add, ↓reduceIte] at hx177_0); (try simp only [show (1 : Int).toNat = 1 from rfl, Nat.reduceMul, Nat.reduceEqDiff, Go.Addr.add, ↓reduceIte] at hx177_1); (try simp only [show (1 : Int).toNat = 1 from rfl, Nat.reduceMul, Nat.reduceEqDiff, Go.Addr.add, ↓reduceIte] at hx177_2); (try simp only [show (1 : Int).toNat = 1 from rfl, Nat.reduceMul, Nat.reduceEqDiff, Go.Addr.add, ↓reduceIte] at hx177_3); (try simp only [show (1 : Int).toNat = 1 from rfl, Nat.reduceMul, Nat.reduceEqDiff, Go.Addr.add, ↓reduceIte] at hx177_4); have qi177 : (1 < t154.length) = True := eq_true (by omega); (try rw [show ((1 : Int)).toNat = 1 from rfl] at hx177_0); (try rw [show 1 * 5 = 5 from rfl] at hx177_0); (try rw [show ((1 : Int)).toNat = 1 from rfl] at hx177_1); (try rw [show 1 * 5 = 5 from rfl] at hx177_1); (try rw [show ((1 : Int)).toNat = 1 from rfl] at hx177_2); (try rw [show 1 * 5 = 5 from rfl] at hx177_2); (try rw [show ((1 : Int)).toNat = 1 from rfl] at hx177_3); (try rw [show 1 * 5 = 5 from rfl] at hx177_3); (try rw [show ((1 : Int)).toNat = 1 from rfl] at hx177_4); (try rw [show 1 * 5 = 5 from rfl] at hx177_4); replace p177 := eq_true p177; replace q177 := eq_true q177))
  repeat (go_quiet (skip); try go_wp2)
  go_ret
  exact ⟨zE, zB⟩
 ·
  rw [if_neg c18] at H
  obtain ⟨c18b0, c18b1⟩ := zne c18; obtain rfl := Option.some.inj H
  go_enter Tryz.func9, Tryz.ntmps9
  go_wp2_with (first | (go_at_call 12; (with_reducible refine (aL_two.calls  t152 t153 t154 t157 t158 t159 _ A1.out).mono ?_); rintro e w44 ⟨v155, v160, rfl, ho0, ho1, hb⟩; have HO156 := Zs.mk (Kd.R_lower ho0 (bsz zB)); have HO161 := Zs.mk (Kd.R_lower ho1 (bsz zB)); replace HB := zBs hb) | ((with_reducible refine gkd (N := 1) rfl ?_); (try (refine gate_guard (by rfl) ?_; dsimp only)); refine bxe ?hg (N := 1) ?hd (cs := #[.int .i64 0, .int .i64 0, .slice none 0 0]) (t := 27) ?hr ?_; (case hd => rfl); (case hg => rfl); (case hr => first | (go_simp; done) | (go_simp; rfl)); intro gb162 hg w45 hbox hb; replace HO156 := zRb HO156 hb; replace HO161 := zRb HO161 hb; have BK162 := Zs.mk (hbox); have GW162 := zG (w := w) hg; have GE162 := zG (w := w) hg; replace HB := zBs hb; clear hb hbox hg) | ((with_reducible refine gkd (N := 2) rfl ?_); (try (refine gate_guard (by rfl) ?_; dsimp only)); refine bxe ?hg (N := 2) ?hd (cs := #[.int .i64 0, .int .i64 0, .slice none 0 0]) (t := 30) ?hr ?_; (case hd => rfl); (case hg => rfl); (case hr => first | (go_simp; done) | (go_simp; rfl)); intro gb163 hg w46 hbox hb; replace HO156 := zRb HO156 hb; replace HO161 := zRb HO161 hb; have BK163 := Zs.mk (hbox); have GW163 := zG (w := w) hg; have GE163 := zG (w := w) hg; replace HB := zBs hb; have NB162_163 := zN hg (zK BK162); have NB163_162 := zM hg (zK BK162); replace BK162 := zKb BK162 hb; clear hb hbox hg; have hnb47 := NB162_163.out; have hnc47 := NB163_162.out; obtain ⟨hcz48_0, hcz48_1, hcz48_2⟩ := zC3 BK162; obtain ⟨hfz48_0, hfz48_1, hfz48_2⟩ := zZ3 BK162; obtain ⟨Ao49, co49, eo49⟩ := Kd.R_slice HO156.out; subst eo49; obtain ⟨hcz50_0, hcz50_1, hcz50_2⟩ := zC3 BK163; obtain ⟨hfz50_0, hfz50_1, hfz50_2⟩ := zZ3 BK163; obtain ⟨Ao51, co51, eo51⟩ := Kd.R_slice HO161.out; subst eo51) | (go_at_call 26; (with_reducible refine (bank_Total.calls k t152 t153 _ _ t154 t164 t165 _ ?side1 ?side2 A2.out).mono ?_); (case side1 => refine (Kd.R_reads' (e := 47) (base := w.heap.size) (ok := fun k_ => True) (n := t154.length) (c := co49) ?_).2.2; exact (by (with_reducible repeat (first | apply Kd.Ral | apply Kd.Rdn | apply Kd.Rdw)); exact (Kd.R_mono (Kd.R_mono (Kd.R_far (p := ⟨gb163, 2, none⟩) (Kd.R_far (p := ⟨gb163, 1, none⟩) (Kd.R_far (p := ⟨gb163, 0, none⟩) (Kd.R_far (p := ⟨gb162, 2, none⟩) (Kd.R_far (p := ⟨gb162, 1, none⟩) (Kd.R_far (p := ⟨gb162, 0, none⟩) (Kd.Rty (Kd.Rty HO156.out BK162.out (by decide)) BK163.out (by decide)) (fun _ hk => hk.1.2) (.int .i64 t152)) (fun _ hk => hk.1.2) (.int .i64 t153)) (fun _ hk => hk.1.2) (.slice Ao49 t154.length co49)) (fun _ hk => hk.2) (.int .i64 t157)) (fun _ hk => hk.2) (.int .i64 t158)) (fun _ hk => hk.2) (.slice Ao51 t159.length co51)) (fun _ h_ => h_.1)) (fun _ h_ => h_.1)))); (case side2 => exact (Kd.R_reads' HO156.out).2.1); rintro e w52 ⟨rfl, hb⟩; replace HO156 := Zs.mk (Kd.R_below (by (with_reducible repeat (first | apply Kd.Ral | apply Kd.Rdn | apply Kd.Rdw)); exact (Kd.R_mono (Kd.R_mono (Kd.R_far (p := ⟨gb163, 2, none⟩) (Kd.R_far (p := ⟨gb163, 1, none⟩) (Kd.R_far (p := ⟨gb163, 0, none⟩) (Kd.R_far (p := ⟨gb162, 2, none⟩) (Kd.R_far (p := ⟨gb162, 1, none⟩) (Kd.R_far (p := ⟨gb162, 0, none⟩) (Kd.Rty (Kd.Rty HO156.out BK162.out (by decide)) BK163.out (by decide)) (fun _ hk => hk.1.2) (.int .i64 t152)) (fun _ hk => hk.1.2) (.int .i64 t153)) (fun _ hk => hk.1.2) (.slice Ao49 t154.length co49)) (fun _ hk => hk.2) (.int .i64 t157)) (fun _ hk => hk.2) (.int .i64 t158)) (fun _ hk => hk.2) (.slice Ao51 t159.length co51)) (fun _ h_ => h_.1)) (fun _ h_ => h_.1))) hb); replace HO161 := Zs.mk (Kd.R_below (by (with_reducible repeat (first | apply Kd.Ral | apply Kd.Rdn | apply Kd.Rdw)); exact (Kd.R_mono (Kd.R_mono (Kd.R_far (p := ⟨gb163, 2, none⟩) (Kd.R_far (p := ⟨gb163, 1, none⟩) (Kd.R_far (p := ⟨gb163, 0, none⟩) (Kd.R_far (p := ⟨gb162, 2, none⟩) (Kd.R_far (p := ⟨gb162, 1, none⟩) (Kd.R_far (p := ⟨gb162, 0, none⟩) (Kd.Rty (Kd.Rty HO161.out BK162.out (by decide)) BK163.out (by decide)) (fun _ hk => hk.1.2) (.int .i64 t152)) (fun _ hk => hk.1.2) (.int .i64 t153)) (fun _ hk => hk.1.2) (.slice Ao49 t154.length co49)) (fun _ hk => hk.2) (.int .i64 t157)) (fun _ hk => hk.2) (.int .i64 t158)) (fun _ hk => hk.2) (.slice Ao51 t159.length co51)) (fun _ h_ => h_.1)) (fun _ h_ => h_.1))) hb); replace BK162 := Zs.mk (blk_below (g := gb162) (o := .cells #[.int .i64 t152, .int .i64 t153, .slice Ao49 t154.length co49] 27 (0, 0)) (zY BK162) hb); replace BK163 := Zs.mk (blk_below (g := gb163) (o := .cells #[.int .i64 t157, .int .i64 t158, .slice Ao51 t159.length co51] 30 (0, 0)) (zY BK163) hb); replace HB := zBs hb; obtain ⟨hcz53_0, hcz53_1, hcz53_2⟩ := zC3 BK162; obtain ⟨hfz53_0, hfz53_1, hfz53_2⟩ := zZ3 BK162) | (go_at_call 23; (with_reducible refine (bank_Write.calls k t152 t153 _ _ t154 t166 t167 _ ?side1 ?side2 ?side3 A3.out).mono ?_); (case side1 => exact zQ HO156); (case side2 => exact (Kd.R_reads' HO156.out).2.1); (case side3 => exact GG.below HG.out zB); rintro e w54 ⟨rfl, hb⟩; replace HO156 := zRb HO156 hb; replace HO161 := zRb HO161 hb; replace BK162 := zKb BK162 hb; replace BK163 := zKb BK163 hb; replace HB := zBs hb; obtain ⟨hcz55_0, hcz55_1, hcz55_2⟩ := zC3 BK163; obtain ⟨hfz55_0, hfz55_1, hfz55_2⟩ := zZ3 BK163) | (go_at_call 29; (with_reducible refine (bank_WriteAnswer.calls k t157 t158 _ _ t159 t168 t169 _ ?side1 ?side2 ?side3 A4.out).mono ?_); (case side1 => exact zQ HO161); (case side2 => exact (Kd.R_reads' HO161.out).2.1); (case side3 => exact GG.below HG.out zB); rintro e w56 ⟨rfl, hb⟩; replace HO156 := zRb HO156 hb; replace HO161 := zRb HO161 hb; replace BK162 := zKb BK162 hb; replace BK163 := zKb BK163 hb; replace HB := zBs hb; obtain ⟨hcz57_0, hcz57_1, hcz57_2⟩ := zC3 BK162; obtain ⟨hfz57_0, hfz57_1, hfz57_2⟩ := zZ3 BK162; obtain ⟨hcz58_0, hcz58_1, hcz58_2⟩ := zC3 BK163; obtain ⟨hfz58_0, hfz58_1, hfz58_2⟩ := zZ3 BK163) | (go_at_call 31; (with_reducible refine (bank_Match.calls k t152 t153 _ _ t154 t157 t158 _ _ t159 t170 t173 _ ?side1 ?side2 ?side3 ?side4 A5.out).mono ?_); (case side1 => exact zQ HO156); (case side2 => exact (Kd.R_reads' HO156.out).2.1); (case side3 => exact zQ HO161); (case side4 => exact (Kd.R_reads' HO161.out).2.1); rintro e w59 ⟨v171, rfl, ho0, hb⟩; replace HO161 := zRb HO161 hb; have HO172 := Zs.mk (Kd.R_lower (Kd.R_new' ho0 (Kd.R_lt (zR HO156))) (bsz zB)); replace HO156 := Zs.mk (Kd.R_elder' (zR HO156) (Kd.R_base ho0) hb); replace BK162 := zKb BK162 hb; replace BK163 := zKb BK163 hb; replace HB := zBs hb) | (go_at_call 23; (refine (bank_Write.calls k 1 0 _ _ ([] : List (S47)) t174 t175 _ ?side1 ?side2 ?side3 A6.out).mono ?_); (case side1 => exact Kd.C_nil _ _); (case side2 => exact Nat.le_refl _); (case side3 => exact GG.below HG.out zB); rintro e w60 ⟨rfl, hb⟩; replace HO156 := zRb HO156 hb; replace HO161 := zRb HO161 hb; replace HO172 := zRb HO172 hb; replace BK162 := zKb BK162 hb; replace BK163 := zKb BK163 hb; replace HB := zBs hb))
  repeat (go_quiet (skip); try go_wp2)
  go_ret
  exact ⟨zE, zB⟩
end
end Go.Proofs.YtndojpcjhkncgaaGreatDoor.Q
end
section
namespace Go.Proofs.YtndojpcjhkncgaaGreatDoor.Q
open Go.RowKit Go.Proofs.YtndojpcjhkncgaaGreatDoorW.PrintWords
section
def exL : List S47 := [⟨3, 55, 1000, 200, 800⟩, ⟨4, 56, 50, 0, 50⟩]
def exR : List S49 := [⟨4, 2⟩]
theorem ex_valid : validB 7 100 exL = true := by decide
theorem ex_right : rightB 7 102 exR = true := by decide
theorem ex_nil : validB 1 0 [] = true := by decide
theorem exW : writeS 7 100 exL = (B (fileText 7 100 exL), 0) := by unfold writeS; rw [if_pos ex_valid]
theorem exA : answerS 7 102 exR = (B (answerText 7 102 exR), 0) := by unfold answerS; rw [if_pos ex_right]
theorem exN : writeS 1 0 [] = (B (fileText 1 0 []), 0) := by unfold writeS; rw [if_pos ex_nil]
theorem exM : matchS 7 100 exL 7 102 exR = ([⟨4, 56, 50, 0, 50⟩], 0) := by
  unfold matchS
  rw [if_pos ⟨ex_valid, ex_right⟩, if_pos (by decide)]
  rfl
theorem txW : fileL 7 100 exL (netSum exL) = [80, 65, 89, 32, 55, 32, 49, 48, 48, 32, 50, 32, 56, 53, 48, 10, 111, 114, 100, 101, 114, 32, 51, 32, 53, 53, 32, 49, 48, 48, 48, 32, 50, 48, 48, 32, 56, 48, 48, 10, 111, 114, 100, 101, 114, 32, 52, 32, 53, 54, 32, 53, 48, 32, 48, 32, 53, 48, 10] := by
  simp [fileL, orderL, lineL, numsL, exL, netSum, Lib.itoa, dec_big, dec_small]
theorem txA : answerL 7 102 exR = [66, 65, 67, 75, 32, 55, 32, 49, 48, 50, 32, 49, 10, 114, 101, 116, 117, 114, 110, 32, 52, 32, 50, 10] := by
  simp [answerL, returnL, lineL, numsL, exR, Lib.itoa, dec_big, dec_small]
theorem txN : fileL 1 0 [] (netSum []) = [80, 65, 89, 32, 49, 32, 48, 32, 48, 32, 48, 10] := by
  simp [fileL, orderL, lineL, numsL, netSum, Lib.itoa, dec_big, dec_small]
theorem txNN : fileText 1 0 [] = [80, 65, 89, 32, 49, 32, 48, 32, 48, 32, 48, 10, 69, 78, 68, 32, 48, 48, 48, 48, 48, 50, 51, 53, 32, 48, 48, 48, 48, 48, 98, 100, 97, 10] := by
  unfold fileText
  rw [txN]
  unfold endL
  rw [← hexR_8 _ (by decide), ← hexR_8 _ (by decide)]
  decide
theorem B_take (l : List UInt8) (n : Nat) : ((B l).extract 0 n).toList = l.take n := by
  rw [ByteArray.toList_eq, ByteArray.data_extract]
  simp [B]
theorem endL_cons (l : List UInt8) : ∃ r, endL l = [69, 78, 68, 32] ++ r := ⟨_, by unfold endL; simp only [List.append_assoc]; rfl⟩
theorem awake_ev : Ev (fun k => aL_awake.f k) true := by
  unfold aL_awake.f
  refine Ev.const (show aL_two.f = some _ from rfl) ?_
  refine Ev.bind (r := true) (Total_ev 7 100 exL (by decide)).1 ?_
  refine Ev.bind (Write_ev 7 100 exL (by decide)) ?_
  refine Ev.bind (WriteAnswer_ev 7 102 exR (by decide)) ?_
  refine Ev.bind (Match_ev 7 100 exL 7 102 exR (by decide) (by decide)) ?_
  refine Ev.bind (Write_ev 1 0 [] (by decide)) ?_
  rw [exW, exA, exN, exM]
  have ht : totalS 7 100 exL = (850, 0) := by decide
  rw [ht]
  obtain ⟨r, hr⟩ := endL_cons (fileL 7 100 exL (netSum exL))
  obtain ⟨r', hr'⟩ := endL_cons (answerL 7 102 exR)
  have h81 : ((B (fileText 7 100 exL)).size : Int) = 81 := by
    rw [B_size]; unfold fileText; rw [List.length_append, endL_len, txW]; rfl
  have h46 : ((B (answerText 7 102 exR)).size : Int) = 46 := by
    rw [B_size]; unfold answerText; rw [List.length_append, endL_len, txA]; rfl
  refine Ev.pos rfl (Ev.pos rfl (Ev.pos rfl (Ev.pos rfl (Ev.pos h81 (Ev.pos h46 (Ev.pos (by omega) (Ev.pos (by rw [h81]; omega) ?_)))))))
  refine Ev.pos (by rw [B_take]; unfold fileText; rw [hr, txW]; rfl) (Ev.pos (by omega) (Ev.pos (by rw [h46]; omega) ?_))
  refine Ev.pos (by rw [B_take]; unfold answerText; rw [hr', txA]; rfl) (Ev.pos rfl (Ev.pos rfl (Ev.pos (by decide) (Ev.pos (by decide) (Ev.pos (by decide) (Ev.pos rfl ?_))))))
  exact Ev.ret (by rw [B_list, txNN]; decide)
end
end Go.Proofs.YtndojpcjhkncgaaGreatDoor.Q
end
section
namespace Go.Proofs.YtndojpcjhkncgaaGreatDoor.Q
open Go.RowKit Go.Proofs.YtndojpcjhkncgaaGreatDoorW.PrintWords Go.Proofs.YtndojpcjhkncgaaGreatDoorW.PrintLast Go.Proofs.YtndojpcjhkncgaaGreatDoorW.PrintMore
section
def aL_plain.f (a0_0 : Int) (a0_1 : Int) (l0_2 : List (S47)) : Option (Int × Int × (List (S47))) := some (a0_0, a0_1, l0_2)
set_option maxHeartbeats 8000000 in
set_option maxRecDepth 100000 in
theorem aL_plain.calls (a0_0 : Int) (a0_1 : Int) (P0_2_ : Nat → Prop) (A0_2 : Option Addr) (c0_2 : Nat) (l0_2 : List (S47)) (r1 : Int) (r2 : Int) (r3 : List (S47)) (w : World) (hs0_2 : Kd.V k47 47 w w.heap.size (fun k_ => P0_2_ k_) (.slice A0_2 l0_2.length c0_2) l0_2) (h : aL_plain.f a0_0 a0_1 l0_2 = some (r1, r2, r3)) :
  Calls Tryz.prog 14 #[.agg #[.int .i64 a0_0, .int .i64 a0_1, .slice A0_2 l0_2.length c0_2]] w fun e w' => ∃ v2_ : Value, e = .returned (.agg #[.int .i64 r1, .int .i64 r2, v2_]) ∧ Kd.V k47 47 w' w.heap.size (fun k_ => (P0_2_ k_ ∨ w.heap.size ≤ k_)) v2_ r3 ∧ Below w.heap.size w w' := by
 have hu27 := Tryz.underlying27; have hu36 := Tryz.underlying36; have HO0_2 := Zs.mk (show Kd.V k47 47 w w.heap.size (fun k_ => (P0_2_ k_ ∨ w.heap.size ≤ k_)) (.slice A0_2 l0_2.length c0_2) l0_2 from Kd.V_mono hs0_2 (fun k_ hk => .inl hk)); have HB := Zs.mk (Below.refl w.heap.size w); have H : (some (a0_0, a0_1, l0_2)) = some (r1, r2, r3) := h; clear h
 simp only [Option.some.injEq, Prod.mk.injEq] at H
 obtain ⟨rfl, rfl, rfl⟩ := H
 go_enter Tryz.func14, Tryz.ntmps14
 go_wp2_with (first | ((with_reducible refine gkd (N := 1) rfl ?_); refine bxe ?hg (N := 1) ?hd (cs := #[.int .i64 a0_0, .int .i64 a0_1, .slice A0_2 l0_2.length c0_2]) (t := 27) ?hr ?_; (case hd => rfl); (case hg => rfl); (case hr => first | (go_simp; done) | (go_simp; rfl)); intro gb178 hg w2 hbox hb; replace HO0_2 := Zs.mk (Kd.V_below (Kd.V_elderB (zV HO0_2) gb178 (Nat.le_of_eq hg.symm)) hb); have BK178 := Zs.mk (hbox); have GW178 := zG (w := w) hg; have GE178 := zG (w := w) hg; replace HB := zBs hb; clear hb hbox hg) | ((with_reducible refine gkd (N := 2) rfl ?_); refine bxe ?hg (N := 2) ?hd (cs := #[.int .i64 0, .int .i64 0, .slice none 0 0]) (t := 36) ?hr ?_; (case hd => rfl); (case hg => rfl); (case hr => first | (go_simp; done) | (go_simp; rfl)); intro gb179 hg w3 hbox hb; replace HO0_2 := Zs.mk (Kd.V_below (Kd.V_elderB (zV HO0_2) gb179 (Nat.le_of_eq hg.symm)) hb); have BK179 := Zs.mk (hbox); have GW179 := zG (w := w) hg; have GE179 := zG (w := w) hg; replace HB := zBs hb; have NB178_179 := zN hg (zK BK178); have NB179_178 := zM hg (zK BK178); replace BK178 := zKb BK178 hb; clear hb hbox hg; have hnb4 := NB178_179.out; have hnc4 := NB179_178.out; obtain ⟨hcz5_0, hcz5_1, hcz5_2⟩ := zC3 BK178; obtain ⟨hfz5_0, hfz5_1, hfz5_2⟩ := zZ3 BK178; obtain ⟨hcz6_0, hcz6_1, hcz6_2⟩ := zC3 BK179; obtain ⟨hfz6_0, hfz6_1, hfz6_2⟩ := zZ3 BK179))
 refine bodyPost_ret (results_cell_row rfl _ _ gb179 36 #[.int .i64 a0_0, .int .i64 a0_1, .slice A0_2 l0_2.length c0_2] (0, 0) _ rfl (zY BK179) Tryz.underlying36 rfl (by kernel_rfl)) rfl ?_
 exact ⟨_, zE, by (with_reducible repeat (first | apply Kd.V_alloc | apply Kd.V_drewN | apply Kd.V_drew)); exact Kd.V_mono (Kd.V_far (p := ⟨gb179, 2, none⟩) (Kd.V_far (p := ⟨gb179, 1, none⟩) (Kd.V_far (p := ⟨gb179, 0, none⟩) (Kd.V_mono HO0_2.out (fun k_ hk => (⟨hk, hk.2⟩ : _ ∧ k_ ≠ gb179))) (fun _ hk => hk.2) (.int .i64 a0_0)) (fun _ hk => hk.2) (.int .i64 a0_1)) (fun _ hk => hk.2) (.slice A0_2 l0_2.length c0_2)) (fun _ hk => hk.1.1.1), zB⟩
end
section
def aL_reads.f (k : Nat) (a0 : ByteArray) : Option (Bool) := (bank_Read.f k a0).bind fun bt359 => ((aR_Read.f k a0).bind fun bt366 => ((bank_ReadAnswer.f k a0).bind fun bt373 => ((aR_ReadAnswer.f k a0).bind fun bt380 => (if bt359.2.2.2 = bt366.2.2.2 then (if bt373.2.2.2 = bt380.2.2.2 then ((aL_plain.f bt359.1 bt359.2.1 bt359.2.2.1).bind fun bt387 => ((aL_sameFile.f k bt387.1 bt387.2.1 bt387.2.2 bt366.1 bt366.2.1 bt366.2.2.1).bind fun t392 => (if t392 = true then ((aL_old.f k bt373.1 bt373.2.1 bt373.2.2.1).bind fun bt393 => ((aL_sameAnswer.f k bt393.1 bt393.2.1 bt393.2.2 bt380.1 bt380.2.1 bt380.2.2.1).bind fun t398 => (some t398))) else (none)))) else (none)) else (none)))))
def aL_reads.T5 : Bool × List (List Nat × List Nat) := (true, [([], []), ([], []), ([0, 1], [0, 1]), ([2], [2]), ([3], [3]), ([3], [3]), ([4, 5, 3], [3, 4, 5]), ([3, 6], [3, 6]), ([7, 3], [7]), ([8], [8]), ([9, 8, 8], [8, 9]), ([8], [8]), ([10, 11, 10, 8], [8, 10, 11]), ([8, 12], [8, 12]), ([13, 12], [13]), ([14], [14]), ([15, 14, 14], [14, 15]), ([14], [14]), ([16, 17, 16, 14], [14, 16, 17]), ([14, 18], [14, 18]), ([19, 18, 0, 1, 2, 3, 4, 5, 6, 7, 8, 9, 10, 11, 12, 13, 14, 15, 16, 17, 18, 19], [19])])
def aL_reads.B5 : List Nat := [0, 0, 3, 7, 15, 15, 63, 127, 255, 511, 1023, 511, 4095, 8191, 16383, 32767, 65535, 32767, 262143, 524287, 1048575]
theorem aL_reads.tab5 : rtab .any (opsOf Tryz.f10 5) = aL_reads.T5 := by kernel_rfl
theorem aL_reads.bits5 : waitsOk aL_reads.T5.2 aL_reads.B5 = true := by kernel_rfl
set_option maxHeartbeats 8000000 in
set_option maxRecDepth 100000 in
theorem aL_reads.calls (k : Nat) (a0 : ByteArray) (r : Bool) (w : World) (hG : GG w) (h : aL_reads.f k a0 = some r) :
  Calls Tryz.prog 10 #[.string a0] w fun e w' => e = .returned (.bool r) ∧ Below w.heap.size w w' := by
 have hu27 := Tryz.underlying27; have hu36 := Tryz.underlying36; have hu30 := Tryz.underlying30; have hu41 := Tryz.underlying41; have HG := Zs.mk hG; clear hG; have HB := Zs.mk (Below.refl w.heap.size w); have H : ((bank_Read.f k a0).bind fun bt359 => ((aR_Read.f k a0).bind fun bt366 => ((bank_ReadAnswer.f k a0).bind fun bt373 => ((aR_ReadAnswer.f k a0).bind fun bt380 => (if bt359.2.2.2 = bt366.2.2.2 then (if bt373.2.2.2 = bt380.2.2.2 then ((aL_plain.f bt359.1 bt359.2.1 bt359.2.2.1).bind fun bt387 => ((aL_sameFile.f k bt387.1 bt387.2.1 bt387.2.2 bt366.1 bt366.2.1 bt366.2.2.1).bind fun t392 => (if t392 = true then ((aL_old.f k bt373.1 bt373.2.1 bt373.2.2.1).bind fun bt393 => ((aL_sameAnswer.f k bt393.1 bt393.2.1 bt393.2.2 bt380.1 bt380.2.1 bt380.2.2.1).bind fun t398 => (some t398))) else (none)))) else (none)) else (none)))))) = some r := h; clear h; obtain ⟨⟨t359, t360, t361, t364⟩, A2, H⟩ := zb H; (try dsimp only [-Int.reduceToNat] at H); obtain ⟨⟨t366, t367, t368, t371⟩, A3, H⟩ := zb H; (try dsimp only [-Int.reduceToNat] at H); obtain ⟨⟨t373, t374, t375, t378⟩, A4, H⟩ := zb H; (try dsimp only [-Int.reduceToNat] at H); obtain ⟨⟨t380, t381, t382, t385⟩, A5, H⟩ := zb H; (try dsimp only [-Int.reduceToNat] at H)
 have c6 := zc H
 rw [if_pos c6] at H
 obtain ⟨c6b0, c6b1⟩ := zeq c6; clear c6
 have c7 := zc H
 rw [if_pos c7] at H
 obtain ⟨c7b0, c7b1⟩ := zeq c7; clear c7; obtain ⟨⟨t387, t388, t389⟩, A8, H⟩ := zb H; (try dsimp only [-Int.reduceToNat] at H); obtain ⟨t392, A9, H⟩ := zb H; (try dsimp only [-Int.reduceToNat] at H)
 by_cases c10 : t392 = true
 ·
  subst c10
  rw [if_pos rfl] at H
  obtain ⟨⟨t393, t394, t395⟩, A11, H⟩ := zb H; (try dsimp only [-Int.reduceToNat] at H); replace H := Option.bind_eq_some_iff.mp H; obtain ⟨t398, A120, H⟩ := H; replace H : (some t398) = some r := H; have A12 := Zs.mk A120; clear A120; obtain rfl := Option.some.inj H
  go_enter Tryz.func10, Tryz.ntmps10
  try go_wp2_with (first | ((with_reducible refine gkc (f := 24) rfl ?_); refine zgo (some 13) Tryz.func24 #[.string a0] ?_; (with_reducible refine (bank_Read.calls k a0 t359 t360 t361 t364 _ ?side1 A2.out).mono ?_); (case side1 => exact GG.below HG.out zB); rintro e w13 ⟨v362, rfl, ho0, hb⟩; refine ⟨_, rfl, ?_⟩; have HO363 := Zs.mk (Kd.R_lower ho0 (bsz zB)); replace HB := zBs hb) | ((with_reducible refine gkd (N := 3) rfl ?_); refine bxe ?hg (N := 3) ?hd (cs := #[.int .i64 0, .int .i64 0, .slice none 0 0]) (t := 27) ?hr ?_; (case hd => rfl); (case hg => rfl); (case hr => first | (go_simp; done) | (go_simp; rfl)); intro gb365 hg w14 hbox hb; replace HO363 := zRb HO363 hb; have BK365 := Zs.mk (hbox); have GW365 := zG (w := w) hg; have GE365 := zG (w := w) hg; replace HB := zBs hb; clear hb hbox hg; obtain ⟨hcz15_0, hcz15_1, hcz15_2⟩ := zC3 BK365; obtain ⟨hfz15_0, hfz15_1, hfz15_2⟩ := zZ3 BK365; obtain ⟨Ao16, co16, eo16⟩ := Kd.R_slice HO363.out; subst eo16) | ((with_reducible refine gkc (f := 32) rfl ?_); refine zgo (some 18) Tryz.func32 #[.string a0] ?_; (with_reducible refine (aR_Read.calls k a0 t366 t367 t368 t371 _ A3.out).mono ?_); rintro e w17 ⟨v369, rfl, ho0, hb⟩; refine ⟨_, rfl, ?_⟩; have HO370 := Zs.mk (Kd.R_lower (Kd.R_new' ho0 (Kd.R_lt (by (with_reducible repeat (first | apply Kd.Ral | apply Kd.Rdn | apply Kd.Rdw)); exact (Kd.R_mono (Kd.R_far (p := ⟨gb365, 2, none⟩) (Kd.R_far (p := ⟨gb365, 1, none⟩) (Kd.R_far (p := ⟨gb365, 0, none⟩) (Kd.Rty HO363.out BK365.out (by decide)) (fun _ hk => hk.2) (.int .i64 t359)) (fun _ hk => hk.2) (.int .i64 t360)) (fun _ hk => hk.2) (.slice Ao16 t361.length co16)) (fun _ h_ => h_.1))))) (bsz zB)); replace HO363 := Zs.mk (Kd.R_elder' (by (with_reducible repeat (first | apply Kd.Ral | apply Kd.Rdn | apply Kd.Rdw)); exact (Kd.R_mono (Kd.R_far (p := ⟨gb365, 2, none⟩) (Kd.R_far (p := ⟨gb365, 1, none⟩) (Kd.R_far (p := ⟨gb365, 0, none⟩) (Kd.Rty HO363.out BK365.out (by decide)) (fun _ hk => hk.2) (.int .i64 t359)) (fun _ hk => hk.2) (.int .i64 t360)) (fun _ hk => hk.2) (.slice Ao16 t361.length co16)) (fun _ h_ => h_.1))) (Kd.R_base ho0) hb); replace BK365 := Zs.mk (blk_below (g := gb365) (o := .cells #[.int .i64 t359, .int .i64 t360, .slice Ao16 t361.length co16] 27 (0, 0)) (zY BK365) hb); replace HB := zBs hb) | ((with_reducible refine gkd (N := 5) rfl ?_); refine bxe ?hg (N := 5) ?hd (cs := #[.int .i64 0, .int .i64 0, .slice none 0 0]) (t := 36) ?hr ?_; (case hd => rfl); (case hg => rfl); (case hr => first | (go_simp; done) | (go_simp; rfl)); intro gb372 hg w18 hbox hb; replace HO363 := zRb HO363 hb; replace HO370 := zRb HO370 hb; have BK372 := Zs.mk (hbox); have GW372 := zG (w := w) hg; have GE372 := zG (w := w) hg; replace HB := zBs hb; have NB365_372 := zN hg (zK BK365); have NB372_365 := zM hg (zK BK365); replace BK365 := zKb BK365 hb; clear hb hbox hg; have hnb19 := NB372_365.out; have hnc19 := NB365_372.out; obtain ⟨hcz20_0, hcz20_1, hcz20_2⟩ := zC3 BK372; obtain ⟨hfz20_0, hfz20_1, hfz20_2⟩ := zZ3 BK372; obtain ⟨Ao21, co21, eo21⟩ := Kd.R_slice HO370.out; subst eo21) | ((with_reducible refine gkc (f := 25) rfl ?_); refine zgo (some 23) Tryz.func25 #[.string a0] ?_; (with_reducible refine (bank_ReadAnswer.calls k a0 t373 t374 t375 t378 _ ?side1 A4.out).mono ?_); (case side1 => exact GG.below HG.out zB); rintro e w22 ⟨v376, rfl, ho0, hb⟩; refine ⟨_, rfl, ?_⟩; replace HO363 := Zs.mk (Kd.R_below (by (with_reducible repeat (first | apply Kd.Ral | apply Kd.Rdn | apply Kd.Rdw)); exact (Kd.R_mono (Kd.R_far (p := ⟨gb372, 2, none⟩) (Kd.R_far (p := ⟨gb372, 1, none⟩) (Kd.R_far (p := ⟨gb372, 0, none⟩) (Kd.Rty HO363.out BK372.out (by decide)) (fun _ hk => hk.2) (.int .i64 t366)) (fun _ hk => hk.2) (.int .i64 t367)) (fun _ hk => hk.2) (.slice Ao21 t368.length co21)) (fun _ h_ => h_.1))) hb); replace HO370 := Zs.mk (Kd.R_below (by (with_reducible repeat (first | apply Kd.Ral | apply Kd.Rdn | apply Kd.Rdw)); exact (Kd.R_mono (Kd.R_far (p := ⟨gb372, 2, none⟩) (Kd.R_far (p := ⟨gb372, 1, none⟩) (Kd.R_far (p := ⟨gb372, 0, none⟩) (Kd.Rty HO370.out BK372.out (by decide)) (fun _ hk => hk.2) (.int .i64 t366)) (fun _ hk => hk.2) (.int .i64 t367)) (fun _ hk => hk.2) (.slice Ao21 t368.length co21)) (fun _ h_ => h_.1))) hb); have HO377 := Zs.mk (Kd.R_lower ho0 (bsz zB)); replace BK365 := Zs.mk (blk_below (zF BK365) hb); replace BK372 := Zs.mk (blk_below (g := gb372) (o := .cells #[.int .i64 t366, .int .i64 t367, .slice Ao21 t368.length co21] 36 (0, 0)) (zY BK372) hb); replace HB := zBs hb) | ((with_reducible refine gkd (N := 7) rfl ?_); refine bxe ?hg (N := 7) ?hd (cs := #[.int .i64 0, .int .i64 0, .slice none 0 0]) (t := 30) ?hr ?_; (case hd => rfl); (case hg => rfl); (case hr => first | (go_simp; done) | (go_simp; rfl)); intro gb379 hg w23 hbox hb; replace HO363 := zRb HO363 hb; replace HO370 := zRb HO370 hb; replace HO377 := zRb HO377 hb; have BK379 := Zs.mk (hbox); have GW379 := zG (w := w) hg; have GE379 := zG (w := w) hg; replace HB := zBs hb; have NB365_379 := zN hg (zK BK365); have NB379_365 := zM hg (zK BK365); replace BK365 := zKb BK365 hb; have NB372_379 := zN hg (zK BK372); have NB379_372 := zM hg (zK BK372); replace BK372 := zKb BK372 hb; clear hb hbox hg; have hnb24 := NB379_365.out; have hnc24 := NB365_379.out; have hnb25 := NB379_372.out; have hnc25 := NB372_379.out; obtain ⟨hcz26_0, hcz26_1, hcz26_2⟩ := zC3 BK379; obtain ⟨hfz26_0, hfz26_1, hfz26_2⟩ := zZ3 BK379; obtain ⟨Ao27, co27, eo27⟩ := Kd.R_slice HO377.out; subst eo27) | ((with_reducible refine gkc (f := 33) rfl ?_); refine zgo (some 28) Tryz.func33 #[.string a0] ?_; (with_reducible refine (aR_ReadAnswer.calls k a0 t380 t381 t382 t385 _ A5.out).mono ?_); rintro e w28 ⟨v383, rfl, ho0, hb⟩; refine ⟨_, rfl, ?_⟩; replace HO363 := Zs.mk (Kd.R_below (by (with_reducible repeat (first | apply Kd.Ral | apply Kd.Rdn | apply Kd.Rdw)); exact (Kd.R_mono (Kd.R_far (p := ⟨gb379, 2, none⟩) (Kd.R_far (p := ⟨gb379, 1, none⟩) (Kd.R_far (p := ⟨gb379, 0, none⟩) (Kd.Rty HO363.out BK379.out (by decide)) (fun _ hk => hk.2) (.int .i64 t373)) (fun _ hk => hk.2) (.int .i64 t374)) (fun _ hk => hk.2) (.slice Ao27 t375.length co27)) (fun _ h_ => h_.1))) hb); replace HO370 := Zs.mk (Kd.R_below (by (with_reducible repeat (first | apply Kd.Ral | apply Kd.Rdn | apply Kd.Rdw)); exact (Kd.R_mono (Kd.R_far (p := ⟨gb379, 2, none⟩) (Kd.R_far (p := ⟨gb379, 1, none⟩) (Kd.R_far (p := ⟨gb379, 0, none⟩) (Kd.Rty HO370.out BK379.out (by decide)) (fun _ hk => hk.2) (.int .i64 t373)) (fun _ hk => hk.2) (.int .i64 t374)) (fun _ hk => hk.2) (.slice Ao27 t375.length co27)) (fun _ h_ => h_.1))) hb); replace HO377 := Zs.mk (Kd.R_below (by (with_reducible repeat (first | apply Kd.Ral | apply Kd.Rdn | apply Kd.Rdw)); exact (Kd.R_mono (Kd.R_far (p := ⟨gb379, 2, none⟩) (Kd.R_far (p := ⟨gb379, 1, none⟩) (Kd.R_far (p := ⟨gb379, 0, none⟩) (Kd.Rty HO377.out BK379.out (by decide)) (fun _ hk => hk.2) (.int .i64 t373)) (fun _ hk => hk.2) (.int .i64 t374)) (fun _ hk => hk.2) (.slice Ao27 t375.length co27)) (fun _ h_ => h_.1))) hb); have HO384 := Zs.mk (Kd.R_lower ho0 (bsz zB)); replace BK365 := Zs.mk (blk_below (zF BK365) hb); replace BK372 := Zs.mk (blk_below (zF BK372) hb); replace BK379 := Zs.mk (blk_below (g := gb379) (o := .cells #[.int .i64 t373, .int .i64 t374, .slice Ao27 t375.length co27] 30 (0, 0)) (zY BK379) hb); replace HB := zBs hb) | ((with_reducible refine gkd (N := 9) rfl ?_); refine bxe ?hg (N := 9) ?hd (cs := #[.int .i64 0, .int .i64 0, .slice none 0 0]) (t := 41) ?hr ?_; (case hd => rfl); (case hg => rfl); (case hr => first | (go_simp; done) | (go_simp; rfl)); intro gb386 hg w29 hbox hb; replace HO363 := zRb HO363 hb; replace HO370 := zRb HO370 hb; replace HO377 := zRb HO377 hb; replace HO384 := zRb HO384 hb; have BK386 := Zs.mk (hbox); have GW386 := zG (w := w) hg; have GE386 := zG (w := w) hg; replace HB := zBs hb; have NB365_386 := zN hg (zK BK365); have NB386_365 := zM hg (zK BK365); replace BK365 := zKb BK365 hb; have NB372_386 := zN hg (zK BK372); have NB386_372 := zM hg (zK BK372); replace BK372 := zKb BK372 hb; have NB379_386 := zN hg (zK BK379); have NB386_379 := zM hg (zK BK379); replace BK379 := zKb BK379 hb; clear hb hbox hg; have hnb30 := NB386_365.out; have hnc30 := NB365_386.out; have hnb31 := NB386_372.out; have hnc31 := NB372_386.out; have hnb32 := NB386_379.out; have hnc32 := NB379_386.out; obtain ⟨hcz33_0, hcz33_1, hcz33_2⟩ := zC3 BK386; obtain ⟨hfz33_0, hfz33_1, hfz33_2⟩ := zZ3 BK386; obtain ⟨Ao34, co34, eo34⟩ := Kd.R_slice HO384.out; subst eo34))
  have n0_ : Zs (Kd.R k47 47 (((w29.setCell ⟨gb386, 0, none⟩ (.int .i64 t380)).setCell ⟨gb386, 1, none⟩ (.int .i64 t381)).setCell ⟨gb386, 2, none⟩ (.slice Ao34 t382.length co34)) w.heap.size (fun k_ => some k_ ≠ (.slice Ao21 t368.length co21 : Value).ownBlock) (.slice Ao16 t361.length co16) t361) := ⟨by (with_reducible repeat (first | apply Kd.Ral | apply Kd.Rdn | apply Kd.Rdw)); exact Kd.R_mono (Kd.R_far (p := ⟨gb386, 2, none⟩) (Kd.R_far (p := ⟨gb386, 1, none⟩) (Kd.R_far (p := ⟨gb386, 0, none⟩) (Kd.Rty HO363.out BK386.out (by decide)) (fun _ hk => hk.2) (.int .i64 t380)) (fun _ hk => hk.2) (.int .i64 t381)) (fun _ hk => hk.2) (.slice Ao34 t382.length co34)) (fun _ hk => hk.1.2)⟩
  have n1_ : Zs (Kd.R k47 47 (((w29.setCell ⟨gb386, 0, none⟩ (.int .i64 t380)).setCell ⟨gb386, 1, none⟩ (.int .i64 t381)).setCell ⟨gb386, 2, none⟩ (.slice Ao34 t382.length co34)) w.heap.size (fun k_ => some k_ ≠ (.slice Ao16 t361.length co16 : Value).ownBlock) (.slice Ao21 t368.length co21) t368) := ⟨by (with_reducible repeat (first | apply Kd.Ral | apply Kd.Rdn | apply Kd.Rdw)); exact Kd.R_mono (Kd.R_far (p := ⟨gb386, 2, none⟩) (Kd.R_far (p := ⟨gb386, 1, none⟩) (Kd.R_far (p := ⟨gb386, 0, none⟩) (Kd.Rty HO370.out BK386.out (by decide)) (fun _ hk => hk.2) (.int .i64 t380)) (fun _ hk => hk.2) (.int .i64 t381)) (fun _ hk => hk.2) (.slice Ao34 t382.length co34)) (fun _ hk => hk.1.2)⟩
  have n2_ : Zs (Kd.R k49 49 (((w29.setCell ⟨gb386, 0, none⟩ (.int .i64 t380)).setCell ⟨gb386, 1, none⟩ (.int .i64 t381)).setCell ⟨gb386, 2, none⟩ (.slice Ao34 t382.length co34)) w.heap.size (fun _ => True) (.slice Ao27 t375.length co27) t375) := ⟨by (with_reducible repeat (first | apply Kd.Ral | apply Kd.Rdn | apply Kd.Rdw)); exact Kd.R_mono (Kd.R_far (p := ⟨gb386, 2, none⟩) (Kd.R_far (p := ⟨gb386, 1, none⟩) (Kd.R_far (p := ⟨gb386, 0, none⟩) (Kd.Rty HO377.out BK386.out (by decide)) (fun _ hk => hk.2) (.int .i64 t380)) (fun _ hk => hk.2) (.int .i64 t381)) (fun _ hk => hk.2) (.slice Ao34 t382.length co34)) (fun _ hk => trivial)⟩
  have n3_ : Zs (Kd.R k78 78 (((w29.setCell ⟨gb386, 0, none⟩ (.int .i64 t380)).setCell ⟨gb386, 1, none⟩ (.int .i64 t381)).setCell ⟨gb386, 2, none⟩ (.slice Ao34 t382.length co34)) w.heap.size (fun _ => True) (.slice Ao34 t382.length co34) t382) := ⟨by (with_reducible repeat (first | apply Kd.Ral | apply Kd.Rdn | apply Kd.Rdw)); exact Kd.R_mono (Kd.R_far (p := ⟨gb386, 2, none⟩) (Kd.R_far (p := ⟨gb386, 1, none⟩) (Kd.R_far (p := ⟨gb386, 0, none⟩) (Kd.Rty HO384.out BK386.out (by decide)) (fun _ hk => hk.2) (.int .i64 t380)) (fun _ hk => hk.2) (.int .i64 t381)) (fun _ hk => hk.2) (.slice Ao34 t382.length co34)) (fun _ hk => trivial)⟩
  have n4_ : Zs ((((w29.setCell ⟨gb386, 0, none⟩ (.int .i64 t380)).setCell ⟨gb386, 1, none⟩ (.int .i64 t381)).setCell ⟨gb386, 2, none⟩ (.slice Ao34 t382.length co34)).heap[gb365]? = some (.cells #[.int .i64 t359, .int .i64 t360, .slice Ao16 t361.length co16] 27 (0, 0))) := ⟨zF BK365⟩
  have n5_ : Zs ((((w29.setCell ⟨gb386, 0, none⟩ (.int .i64 t380)).setCell ⟨gb386, 1, none⟩ (.int .i64 t381)).setCell ⟨gb386, 2, none⟩ (.slice Ao34 t382.length co34)).heap[gb372]? = some (.cells #[.int .i64 t366, .int .i64 t367, .slice Ao21 t368.length co21] 36 (0, 0))) := ⟨zF BK372⟩
  have n6_ : Zs ((((w29.setCell ⟨gb386, 0, none⟩ (.int .i64 t380)).setCell ⟨gb386, 1, none⟩ (.int .i64 t381)).setCell ⟨gb386, 2, none⟩ (.slice Ao34 t382.length co34)).heap[gb379]? = some (.cells #[.int .i64 t373, .int .i64 t374, .slice Ao27 t375.length co27] 30 (0, 0))) := ⟨zF BK379⟩
  have n7_ : Zs ((((w29.setCell ⟨gb386, 0, none⟩ (.int .i64 t380)).setCell ⟨gb386, 1, none⟩ (.int .i64 t381)).setCell ⟨gb386, 2, none⟩ (.slice Ao34 t382.length co34)).heap[gb386]? = some (.cells #[.int .i64 t380, .int .i64 t381, .slice Ao34 t382.length co34] 41 (0, 0))) := ⟨zY BK386⟩
  have n8_ : Zs (Below w.heap.size w (((w29.setCell ⟨gb386, 0, none⟩ (.int .i64 t380)).setCell ⟨gb386, 1, none⟩ (.int .i64 t381)).setCell ⟨gb386, 2, none⟩ (.slice Ao34 t382.length co34))) := ⟨zB⟩
  (try clear HO363)
  (try clear HO370)
  (try clear HO377)
  (try clear HO384)
  (try clear BK365)
  (try clear BK372)
  (try clear BK379)
  (try clear BK386)
  (try clear HB)
  generalize (((w29.setCell ⟨gb386, 0, none⟩ (.int .i64 t380)).setCell ⟨gb386, 1, none⟩ (.int .i64 t381)).setCell ⟨gb386, 2, none⟩ (.slice Ao34 t382.length co34)) = w35 at n0_ n1_ n2_ n3_ n4_ n5_ n6_ n7_ n8_ ⊢
  have HO363 := n0_; have HO370 := n1_; have HO377 := n2_; have HO384 := n3_; have BK365 := n4_; have BK372 := n5_; have BK379 := n6_; have BK386 := n7_; have HB := n8_; clear n0_ n1_ n2_ n3_ n4_ n5_ n6_ n7_ n8_; replace HO363 := Zs.mk (Kd.Rdw HO363.out); replace HO370 := Zs.mk (Kd.Rdw HO370.out); replace HO377 := Zs.mk (Kd.Rdw HO377.out); replace HO384 := Zs.mk (Kd.Rdw HO384.out); replace BK365 := Zs.mk (blk_drew BK365.out); replace BK372 := Zs.mk (blk_drew BK372.out); replace BK379 := Zs.mk (blk_drew BK379.out); replace BK386 := Zs.mk (blk_drew BK386.out); replace HB := Zs.mk (below_drew1 HB.out); 
  refine start_ (n := 21) (S := fun w' => w'.cell? ⟨gb365, 0, none⟩ = some (.int .i64 t359) ∧ w'.cell? ⟨gb365, 1, none⟩ = some (.int .i64 t360) ∧ w'.cell? ⟨gb365, 2, none⟩ = some (.slice Ao16 t361.length co16) ∧ w'.cell? ⟨gb372, 0, none⟩ = some (.int .i64 t366) ∧ w'.cell? ⟨gb372, 1, none⟩ = some (.int .i64 t367) ∧ w'.cell? ⟨gb372, 2, none⟩ = some (.slice Ao21 t368.length co21) ∧ w'.cell? ⟨gb379, 0, none⟩ = some (.int .i64 t373) ∧ w'.cell? ⟨gb379, 1, none⟩ = some (.int .i64 t374) ∧ w'.cell? ⟨gb379, 2, none⟩ = some (.slice Ao27 t375.length co27) ∧ w'.cell? ⟨gb386, 0, none⟩ = some (.int .i64 t380) ∧ w'.cell? ⟨gb386, 1, none⟩ = some (.int .i64 t381) ∧ w'.cell? ⟨gb386, 2, none⟩ = some (.slice Ao34 t382.length co34)) (ds := []) (zo 21) (by kernel_rfl) rfl rfl (zJ3 (zC3 BK365) (zJ3 (zC3 BK372) (zJ3 (zC3 BK379) (zC3 BK386)))) (fun hHeld => ?_); refine with_tabW aL_reads.tab5 aL_reads.bits5 (fun HT_ HW_ => ?_)
  generalize w35.drew = w36 at HO363 HO370 HO377 HO384 BK365 BK372 BK379 BK386 HB hHeld ⊢
  refine zp 0 31 (zm 21 1) ?_
  refine zp 1 32 (zm 21 3) ?_
  refine zp 2 33 (zm 21 7) ?_
  refine zp 3 34 (zm 21 15) ?_
  refine zp 4 35 (zm 21 31) ?_
  refine zp 5 36 (zm 21 63) ?_
  refine zp 6 37 (zm 21 127) ?_
  refine zp 7 38 (zm 21 255) ?_
  refine zp 8 39 (zm 21 511) ?_
  refine take_ (i := 9) (N := some 40) (v := ?_) (a' := ?_) (zm 21 1023) rfl rfl (take_ofW HT_.out HW_.out (by kernel_rfl)) (fun _ _ _ h => h) (Or.inl ⟨by rfl, ?_⟩) hHeld ?_ ?_
  rotate_left
  ·
   rintro w' ⟨s0, s1, s2, s3, s4, s5, s6, s7, s8, s9, s10, s11⟩
   go_simp
   with_reducible rfl
  rotate_left
  · simp only [Act.put, z1, z2, z3, i64_w, i32_w]; rfl
  refine take_ (i := 11) (N := some 42) (v := ?_) (a' := ?_) (zm 21 3071) rfl rfl (take_ofW HT_.out HW_.out (by kernel_rfl)) (fun _ _ _ h => h) (Or.inl ⟨by rfl, ?_⟩) hHeld ?_ ?_
  rotate_left
  ·
   rintro w' ⟨s0, s1, s2, s3, s4, s5, s6, s7, s8, s9, s10, s11⟩
   go_simp
   with_reducible rfl
  rotate_left
  · simp only [Act.put, z1, z2, z3, i64_w, i32_w]; rfl
  refine one_ (i := 10) (N := some 41) (zm 21 4095) rfl rfl (one_of HT_.out (by kernel_rfl)) (by decide) (fun K hK => ?_)
  refine goes_ Tryz.func14 (by kernel_rfl) rfl #[.agg #[.int .i64 t359, .int .i64 t360, .slice Ao16 t361.length co16]] (by rfl) rfl rfl (by (try simp only [List.map_toArray, List.map_cons, List.map_nil]); try rfl) ?_
  with_reducible refine (aL_plain.calls t359 t360 (fun k_ => some k_ = (.slice Ao16 t361.length co16 : Value).ownBlock) _ _ t361 t387 t388 t389 _ ?side1 A8.out).mono ?_
  (case side1 => exact Kd.R_V (Kd.R_tight rfl (Kd.Rty (Kd.Rty (Kd.Rty (Kd.Rty (Kd.R_apart' (Kd.R_apart' (HO363.out) (Kd.Rtd HO377.out) (by decide)) (Kd.Rtd HO384.out) (by decide)) BK365.out (by decide)) BK372.out (by decide)) BK379.out (by decide)) BK386.out (by decide))))
  rintro e w37 ⟨v390, rfl, ho0, hb⟩
  refine ⟨_, rfl, ?_⟩
  have HO391 := Zs.mk (Kd.V_lower (Kd.V_mono (ok' := fun k_ => some k_ ≠ (.slice Ao21 t368.length co21 : Value).ownBlock ∧ some k_ ≠ (.slice Ao27 t375.length co27 : Value).ownBlock ∧ some k_ ≠ (.slice Ao34 t382.length co34 : Value).ownBlock ∧ k_ ≠ gb365 ∧ k_ ≠ gb372 ∧ k_ ≠ gb379 ∧ k_ ≠ gb386) ho0 (fun k_ hk_ => ⟨Or.elim hk_ (fun hs_ => ((Kd.Rty (Kd.Rty (Kd.Rty (Kd.Rty (Kd.R_apart' (Kd.R_apart' (HO363.out) (Kd.Rtd HO377.out) (by decide)) (Kd.Rtd HO384.out) (by decide)) BK365.out (by decide)) BK372.out (by decide)) BK379.out (by decide)) BK386.out (by decide)).1 k_ hs_.symm).1.1.1.1.1.1) (fun hn_ => (Kd.fresh' (Kd.R_lt (zR HO370)) k_ hn_)), Or.elim hk_ (fun hs_ => ((Kd.Rty (Kd.Rty (Kd.Rty (Kd.Rty (Kd.R_apart' (Kd.R_apart' (HO363.out) (Kd.Rtd HO377.out) (by decide)) (Kd.Rtd HO384.out) (by decide)) BK365.out (by decide)) BK372.out (by decide)) BK379.out (by decide)) BK386.out (by decide)).1 k_ hs_.symm).1.1.1.1.1.2) (fun hn_ => (Kd.fresh' (Kd.R_lt (zR HO377)) k_ hn_)), Or.elim hk_ (fun hs_ => ((Kd.Rty (Kd.Rty (Kd.Rty (Kd.Rty (Kd.R_apart' (Kd.R_apart' (HO363.out) (Kd.Rtd HO377.out) (by decide)) (Kd.Rtd HO384.out) (by decide)) BK365.out (by decide)) BK372.out (by decide)) BK379.out (by decide)) BK386.out (by decide)).1 k_ hs_.symm).1.1.1.1.2) (fun hn_ => (Kd.fresh' (Kd.R_lt (zR HO384)) k_ hn_)), Or.elim hk_ (fun hs_ => ((Kd.Rty (Kd.Rty (Kd.Rty (Kd.Rty (Kd.R_apart' (Kd.R_apart' (HO363.out) (Kd.Rtd HO377.out) (by decide)) (Kd.Rtd HO384.out) (by decide)) BK365.out (by decide)) BK372.out (by decide)) BK379.out (by decide)) BK386.out (by decide)).1 k_ hs_.symm).1.1.1.2) (fun hn_ => (Kd.freshB (g := gb365) (o := .cells #[.int .i64 t359, .int .i64 t360, .slice Ao16 t361.length co16] 27 (0, 0)) (zK BK365) k_ hn_)), Or.elim hk_ (fun hs_ => ((Kd.Rty (Kd.Rty (Kd.Rty (Kd.Rty (Kd.R_apart' (Kd.R_apart' (HO363.out) (Kd.Rtd HO377.out) (by decide)) (Kd.Rtd HO384.out) (by decide)) BK365.out (by decide)) BK372.out (by decide)) BK379.out (by decide)) BK386.out (by decide)).1 k_ hs_.symm).1.1.2) (fun hn_ => (Kd.freshB (g := gb372) (o := .cells #[.int .i64 t366, .int .i64 t367, .slice Ao21 t368.length co21] 36 (0, 0)) (zK BK372) k_ hn_)), Or.elim hk_ (fun hs_ => ((Kd.Rty (Kd.Rty (Kd.Rty (Kd.Rty (Kd.R_apart' (Kd.R_apart' (HO363.out) (Kd.Rtd HO377.out) (by decide)) (Kd.Rtd HO384.out) (by decide)) BK365.out (by decide)) BK372.out (by decide)) BK379.out (by decide)) BK386.out (by decide)).1 k_ hs_.symm).1.2) (fun hn_ => (Kd.freshB (g := gb379) (o := .cells #[.int .i64 t373, .int .i64 t374, .slice Ao27 t375.length co27] 30 (0, 0)) (zK BK379) k_ hn_)), Or.elim hk_ (fun hs_ => ((Kd.Rty (Kd.Rty (Kd.Rty (Kd.Rty (Kd.R_apart' (Kd.R_apart' (HO363.out) (Kd.Rtd HO377.out) (by decide)) (Kd.Rtd HO384.out) (by decide)) BK365.out (by decide)) BK372.out (by decide)) BK379.out (by decide)) BK386.out (by decide)).1 k_ hs_.symm).2) (fun hn_ => (Kd.freshB (g := gb386) (o := .cells #[.int .i64 t380, .int .i64 t381, .slice Ao34 t382.length co34] 41 (0, 0)) (zK BK386) k_ hn_))⟩)) (bsz zB)); replace HO363 := zRb HO363 hb; replace HO370 := zRb HO370 hb; replace HO377 := zRb HO377 hb; replace HO384 := zRb HO384 hb; replace BK365 := zKb BK365 hb; replace BK372 := zKb BK372 hb; replace BK379 := zKb BK379 hb; replace BK386 := zKb BK386 hb; replace HB := zBs hb
  obtain ⟨Ao38, co38, eo38⟩ := Kd.V_slice HO391.out
  (first | subst eo38 | (injection eo38 with f1_ f2_ f3_; have f4_ := f1_.symm; have f5_ := f3_.symm; clear f1_ f2_ f3_; subst f4_; subst f5_))
  refine hK.out _ _ (zJ3 (zC3 BK365) (zJ3 (zC3 BK372) (zJ3 (zC3 BK379) (zC3 BK386)))) (fun hHeld => ?_)
  clear hK K
  refine norm_ (a' := ?_) ?_ ?_
  rotate_left
  ·
   show Act.put _ (some 41) _ = _
   simp only [Act.put, z1, z2, z3, i64_w, i32_w]
   rfl
  refine one_ (i := 12) (N := some 43) (zm 21 8191) rfl rfl (one_of HT_.out (by kernel_rfl)) (by decide) (fun K hK => ?_)
  refine goes_ Tryz.func27 (by kernel_rfl) rfl #[.agg #[.int .i64 t387, .int .i64 t388, .slice Ao38 t389.length co38], .agg #[.int .i64 t366, .int .i64 t367, .slice Ao21 t368.length co21]] (by rfl) rfl rfl (by (try simp only [List.map_toArray, List.map_cons, List.map_nil]); try rfl) ?_
  with_reducible refine (aL_sameFile.calls k t387 t388 _ _ t389 t366 t367 _ _ t368 true _ ?side1 ?side2 ?side3 ?side4 A9.out).mono ?_
  (case side1 => repeat (first | exact (Kd.V_reads' HO391.out).2.2 | (with_reducible refine Kd.C_alloc ?_ _) | (with_reducible refine Kd.C_drewN ?_ _) | (with_reducible refine Kd.C_drew ?_)))
  (case side2 => exact (Kd.V_reads' HO391.out).2.1)
  (case side3 => exact zQ HO370)
  (case side4 => exact (Kd.R_reads' HO370.out).2.1)
  rintro e w39 ⟨rfl, hb⟩
  refine ⟨_, rfl, ?_⟩
  replace HO363 := zRb HO363 hb; replace HO370 := zRb HO370 hb; replace HO377 := zRb HO377 hb; replace HO384 := zRb HO384 hb; replace HO391 := Zs.mk (Kd.V_below (zV HO391) hb); replace BK365 := zKb BK365 hb; replace BK372 := zKb BK372 hb; replace BK379 := zKb BK379 hb; replace BK386 := zKb BK386 hb; replace HB := zBs hb
  refine hK.out _ _ (zJ3 (zC3 BK365) (zJ3 (zC3 BK372) (zJ3 (zC3 BK379) (zC3 BK386)))) (fun hHeld => ?_)
  clear hK K
  refine norm_ (a' := ?_) ?_ ?_
  rotate_left
  ·
   show Act.put _ (some 43) _ = _
   simp only [Act.put, z1, z2, z3, i64_w, i32_w]
   rfl
  refine zp 13 44 (zm 21 16383) ?_
  refine zp 14 45 (zm 21 32767) ?_
  refine take_ (i := 15) (N := some 46) (v := ?_) (a' := ?_) (zm 21 65535) rfl rfl (take_ofW HT_.out HW_.out (by kernel_rfl)) (fun _ _ _ h => h) (Or.inl ⟨by rfl, ?_⟩) hHeld ?_ ?_
  rotate_left
  ·
   rintro w' ⟨s0, s1, s2, s3, s4, s5, s6, s7, s8, s9, s10, s11⟩
   go_simp
   with_reducible rfl
  rotate_left
  · simp only [Act.put, z1, z2, z3, i64_w, i32_w]; rfl
  refine take_ (i := 17) (N := some 48) (v := ?_) (a' := ?_) (zm 21 196607) rfl rfl (take_ofW HT_.out HW_.out (by kernel_rfl)) (fun _ _ _ h => h) (Or.inl ⟨by rfl, ?_⟩) hHeld ?_ ?_
  rotate_left
  ·
   rintro w' ⟨s0, s1, s2, s3, s4, s5, s6, s7, s8, s9, s10, s11⟩
   go_simp
   with_reducible rfl
  rotate_left
  · simp only [Act.put, z1, z2, z3, i64_w, i32_w]; rfl
  refine one_ (i := 16) (N := some 47) (zm 21 262143) rfl rfl (one_of HT_.out (by kernel_rfl)) (by decide) (fun K hK => ?_)
  refine goes_ Tryz.func16 (by kernel_rfl) rfl #[.agg #[.int .i64 t373, .int .i64 t374, .slice Ao27 t375.length co27]] (by rfl) rfl rfl (by (try simp only [List.map_toArray, List.map_cons, List.map_nil]); try rfl) ?_
  with_reducible refine (aL_old.calls k t373 t374 _ _ t375 t393 t394 t395 _ ?side1 ?side2 A11.out).mono ?_
  (case side1 => exact zQ HO377)
  (case side2 => exact (Kd.R_reads' HO377.out).2.1)
  rintro e w40 ⟨v396, rfl, ho0, hb⟩
  refine ⟨_, rfl, ?_⟩
  replace HO363 := zRb HO363 hb; replace HO370 := zRb HO370 hb; replace HO377 := zRb HO377 hb; replace HO391 := Zs.mk (Kd.V_elder' (zV HO391) (Kd.R_base ho0) hb); have HO397 := Zs.mk (Kd.R_lower (Kd.R_new' ho0 (Kd.R_lt (zR HO384))) (bsz zB)); replace HO384 := Zs.mk (Kd.R_elder' (zR HO384) (Kd.R_base ho0) hb); replace BK365 := zKb BK365 hb; replace BK372 := zKb BK372 hb; replace BK379 := zKb BK379 hb; replace BK386 := zKb BK386 hb; replace HB := zBs hb
  obtain ⟨Ao41, co41, eo41⟩ := Kd.R_slice HO397.out
  (first | subst eo41 | (injection eo41 with f1_ f2_ f3_; have f4_ := f1_.symm; have f5_ := f3_.symm; clear f1_ f2_ f3_; subst f4_; subst f5_))
  refine hK.out _ _ (zJ3 (zC3 BK365) (zJ3 (zC3 BK372) (zJ3 (zC3 BK379) (zC3 BK386)))) (fun hHeld => ?_)
  clear hK K
  refine norm_ (a' := ?_) ?_ ?_
  rotate_left
  ·
   show Act.put _ (some 47) _ = _
   simp only [Act.put, z1, z2, z3, i64_w, i32_w]
   rfl
  refine one_ (i := 18) (N := some 49) (zm 21 524287) rfl rfl (one_of HT_.out (by kernel_rfl)) (by decide) (fun K hK => ?_)
  refine goes_ Tryz.func30 (by kernel_rfl) rfl #[.agg #[.int .i64 t393, .int .i64 t394, .slice Ao41 t395.length co41], .agg #[.int .i64 t380, .int .i64 t381, .slice Ao34 t382.length co34]] (by rfl) rfl rfl (by (try simp only [List.map_toArray, List.map_cons, List.map_nil]); try rfl) ?_
  with_reducible refine (aL_sameAnswer.calls k t393 t394 _ _ t395 t380 t381 _ _ t382 t398 _ ?side1 ?side2 ?side3 ?side4 A12.out).mono ?_
  (case side1 => exact zQ HO397)
  (case side2 => exact (Kd.R_reads' HO397.out).2.1)
  (case side3 => exact zQ HO384)
  (case side4 => exact (Kd.R_reads' HO384.out).2.1)
  rintro e w42 ⟨rfl, hb⟩
  refine ⟨_, rfl, ?_⟩
  replace HO363 := zRb HO363 hb; replace HO370 := zRb HO370 hb; replace HO377 := zRb HO377 hb; replace HO384 := zRb HO384 hb; replace HO391 := Zs.mk (Kd.V_below (zV HO391) hb); replace HO397 := zRb HO397 hb; replace BK365 := zKb BK365 hb; replace BK372 := zKb BK372 hb; replace BK379 := zKb BK379 hb; replace BK386 := zKb BK386 hb; replace HB := zBs hb
  refine hK.out _ _ (zJ3 (zC3 BK365) (zJ3 (zC3 BK372) (zJ3 (zC3 BK379) (zC3 BK386)))) (fun hHeld => ?_)
  clear hK K
  refine norm_ (a' := ?_) ?_ ?_
  rotate_left
  ·
   show Act.put _ (some 49) _ = _
   simp only [Act.put, z1, z2, z3, i64_w, i32_w]
   rfl
  refine zp 19 50 (zm 21 1048575) ?_
  refine zp 20 2 (zm 21 2097151) ?_
  refine done_ (done_of HT_.out (by kernel_rfl)) ?_
  try go_wp2
  go_ret
  exact ⟨zE, zB⟩
 ·
  replace c10 := Bool.eq_false_iff.mpr c10; subst c10
  rw [if_neg (show ¬ (false = true) by decide)] at H
  exact absurd H (by simp)
end
end Go.Proofs.YtndojpcjhkncgaaGreatDoor.Q
end

section

end
section
namespace Go.Proofs.YtndojpcjhkncgaaGreatDoor.Q
open Go Go.RowKit Go.Proofs.YtndojpcjhkncgaaGreatDoorW.PrintWords
section
theorem lines_count (t : List UInt8) : (linesOf t).length ≤ t.length + 1 := by
  have h1 := flatL_le' 10 (t.take (t.length - 23))
  rw [List.length_take] at h1
  unfold linesOf
  omega
theorem rdL (a : List Int) (rs : List (List Int)) (i : Nat) (h : i < rs.length) : rd_L6 (a :: rs) ((i + 1 : Nat) : Int) = rs[i] := by
  unfold rd_L6
  rw [show (((i + 1 : Nat) : Int)).toNat = i + 1 from rfl]
  simp [h]
theorem take_more {α β : Type} (f : α → β) (l : List α) (i : Nat) (h : i < l.length) : (l.take i).map f ++ [f l[i]] = (l.take (i + 1)).map f := by
  rw [List.take_add_one, List.getElem?_eq_getElem h, List.map_append]
  rfl
theorem refRead_l0 (t : List UInt8) (a : List Int) (rs : List (List Int)) (h5 : ∀ r ∈ rs, r.length = 5) (hb : rs.length ≤ 1048577) (n d : Int) (res : Int × Int × List S47 × Int)
    (hw : Ev (fun k => (aR_Write.f k n d (rs.map toOrd)).bind fun bt => (if bt.2 = 0 then (if bt.1.toList = (B t).toList then (some (n, d, rs.map toOrd, 0)) else (some (0, 0, ([] : List (S47)), 362))) else (some (0, 0, ([] : List (S47)), 362)))) res) (dd : Nat) :
    ∀ (i : Nat), i + dd = rs.length → Ev (fun k => aR_Read.l0 k (B t) (a :: rs) ((i + 1 : Nat) : Int) n d ((rs.take i).map toOrd)) res := by
  induction dd with
  | zero =>
    intro i hi
    rw [List.take_of_length_le (by omega)]
    exact Ev.step (fun k => by rw [aR_Read.l0]) (Ev.neg (by rw [List.length_cons]; omega) hw)
  | succ dd ih =>
    intro i hi
    have hlt : i < rs.length := by omega
    have hl := h5 _ (List.getElem_mem hlt)
    have hout : ((rs.take i).map toOrd).length < 3518437208883 := by rw [List.length_map, List.length_take]; omega
    refine Ev.step (fun k => by rw [aR_Read.l0]) (Ev.pos (by rw [List.length_cons]; omega) (Ev.pos (by omega) ?_))
    rw [rdL a rs i hlt]
    refine Ev.pos (by omega) (Ev.pos (by omega) (Ev.pos (by omega) (Ev.pos (by omega) (Ev.pos (by omega) (Ev.pos hout ?_)))))
    rw [w64 (n := ((i + 1 : Nat) : Int) + 1) (by omega) (by omega)]
    have h1 := ih (i + 1) (by omega)
    rw [← take_more toOrd rs i hlt] at h1
    exact h1
theorem refRead_ev (t : List UInt8) (h : t.length ≤ 4611686018427387904) : Ev (fun k => aR_Read.f k (B t)) (fileR t) := by
  unfold aR_Read.f
  refine Ev.bind (parse_ev t payL orderW 4 5 h (by omega) (by omega)) ?_
  by_cases hc : readC fileOk t = 0
  · obtain ⟨l, ls, a, rs, h1, h2, h3, h4, h5, h6, h7, h8⟩ := read_text payL orderW (by decide) (by decide) 4 5 t hc
    have hrows : rowsF payL 4 orderW 5 (linesOf t) = some (a, rs) := by rw [h1, rowsF, h2, h3]
    have hp : parseR payL orderW 4 5 t = (a :: rs, 0) := by
      unfold parseR
      rw [if_pos hc, hrows]
    rw [hp]
    have hcount : rs.length ≤ 1048577 := by
      have e1 := scansF_len _ _ _ _ h3
      have e2 := lines_count t
      rw [h1, List.length_cons] at e2
      omega
    refine Ev.pos rfl (Ev.pos (by rw [List.length_cons]; omega) ?_)
    show Ev (fun k => if 0 < ((a.length : Nat) : Int) then (if 1 < ((a.length : Nat) : Int) then aR_Read.l0 k (B t) (a :: rs) ((0 + 1 : Nat) : Int) (a.getD 0 0) (a.getD 1 0) ((rs.take 0).map toOrd) else none) else none) _
    refine Ev.pos (by omega) (Ev.pos (by omega) (refRead_l0 t a rs (fun r hr => (h7 r hr).1) hcount _ _ _ ?_ rs.length 0 (by omega)))
    obtain ⟨a0, a1, a2, a3, rfl⟩ : ∃ a0 a1 a2 a3, a = [a0, a1, a2, a3] := by
      match a, h5 with
      | [a0, a1, a2, a3], _ => exact ⟨a0, a1, a2, a3, rfl⟩
    show Ev (fun k => (aR_Write.f k a0 a1 (rs.map toOrd)).bind fun bt => (if bt.2 = 0 then (if bt.1.toList = (B t).toList then (some (a0, a1, rs.map toOrd, 0)) else (some (0, 0, ([] : List (S47)), 362))) else (some (0, 0, ([] : List (S47)), 362)))) _
    refine Ev.bind (refWrite_ev a0 a1 (rs.map toOrd) (by rw [List.length_map]; omega)) ?_
    have hR : fileR t = (if validB a0 a1 (rs.map toOrd) = true then (if a2 = ((rs.map toOrd).length : Int) then (if a3 = netSum (rs.map toOrd) then (a0, a1, rs.map toOrd, (0 : Int)) else (0, 0, [], 362)) else (0, 0, [], 362)) else (0, 0, [], 362)) := by
      unfold fileR
      rw [if_pos hc, h1, fileSt_mk l ls _ rs h2 h3]
      rfl
    unfold writeS
    by_cases v : validB a0 a1 (rs.map toOrd) = true
    · rw [if_pos v]
      refine Ev.pos rfl ?_
      rw [B_list, B_list]
      by_cases e : fileText a0 a1 (rs.map toOrd) = t
      · refine Ev.pos e (Ev.ret ?_)
        rw [← e, fileR_text a0 a1 (rs.map toOrd) v]
      · refine Ev.neg e (Ev.ret ?_)
        have hno : fileR t ≠ (a0, a1, rs.map toOrd, 0) := fun hh => e (fileR_zero t _ _ _ hh).2.1.symm
        rw [hR, if_pos v] at hno ⊢
        by_cases k : a2 = ((rs.map toOrd).length : Int)
        · rw [if_pos k] at hno ⊢
          by_cases s : a3 = netSum (rs.map toOrd)
          · rw [if_pos s] at hno
            exact absurd rfl hno
          · rw [if_neg s]
        · rw [if_neg k]
    · rw [if_neg v, hR, if_neg v]
      exact Ev.neg (by decide) (Ev.now _)
  · have hp : parseR payL orderW 4 5 t = ([], readC fileOk t) := by
      unfold parseR
      rw [if_neg hc]
    have hR : fileR t = (0, 0, [], readC fileOk t) := by
      unfold fileR
      rw [if_neg hc]
    rw [hp, hR]
    exact Ev.neg hc (Ev.now _)
theorem refReadA_l0 (t : List UInt8) (a : List Int) (rs : List (List Int)) (h5 : ∀ r ∈ rs, r.length = 2) (hb : rs.length ≤ 1048577) (n d : Int) (res : Int × Int × List S78 × Int)
    (hw : Ev (fun k => (aR_WriteAnswer.f k n d ((rs.map toRet).map asRef)).bind fun bt => (if bt.2 = 0 then (if bt.1.toList = (B t).toList then (some (n, d, (rs.map toRet).map asRef, 0)) else (some (0, 0, ([] : List (S78)), 362))) else (some (0, 0, ([] : List (S78)), 362)))) res) (dd : Nat) :
    ∀ (i : Nat), i + dd = rs.length → Ev (fun k => aR_ReadAnswer.l0 k (B t) (a :: rs) ((i + 1 : Nat) : Int) n d (((rs.take i).map toRet).map asRef)) res := by
  induction dd with
  | zero =>
    intro i hi
    rw [List.take_of_length_le (by omega)]
    exact Ev.step (fun k => by rw [aR_ReadAnswer.l0]) (Ev.neg (by rw [List.length_cons]; omega) hw)
  | succ dd ih =>
    intro i hi
    have hlt : i < rs.length := by omega
    have hl := h5 _ (List.getElem_mem hlt)
    have hout : (((rs.take i).map toRet).map asRef).length < 8796093022208 := by rw [List.length_map, List.length_map, List.length_take]; omega
    refine Ev.step (fun k => by rw [aR_ReadAnswer.l0]) (Ev.pos (by rw [List.length_cons]; omega) (Ev.pos (by omega) ?_))
    rw [rdL a rs i hlt]
    refine Ev.pos (by omega) (Ev.pos (by omega) (Ev.pos hout ?_))
    rw [w64 (n := ((i + 1 : Nat) : Int) + 1) (by omega) (by omega)]
    have h1 := ih (i + 1) (by omega)
    rw [← take_more toRet rs i hlt, List.map_append] at h1
    exact h1
theorem refReadAnswer_ev (t : List UInt8) (h : t.length ≤ 4611686018427387904) : Ev (fun k => aR_ReadAnswer.f k (B t)) ((answerR t).1, (answerR t).2.1, (answerR t).2.2.1.map asRef, (answerR t).2.2.2) := by
  unfold aR_ReadAnswer.f
  refine Ev.bind (parse_ev t backL returnW 3 2 h (by omega) (by omega)) ?_
  by_cases hc : readC answerOk t = 0
  · obtain ⟨l, ls, a, rs, h1, h2, h3, h4, h5, h6, h7, h8⟩ := read_text backL returnW (by decide) (by decide) 3 2 t hc
    have hrows : rowsF backL 3 returnW 2 (linesOf t) = some (a, rs) := by rw [h1, rowsF, h2, h3]
    have hp : parseR backL returnW 3 2 t = (a :: rs, 0) := by
      unfold parseR
      rw [if_pos hc, hrows]
    rw [hp]
    have hcount : rs.length ≤ 1048577 := by
      have e1 := scansF_len _ _ _ _ h3
      have e2 := lines_count t
      rw [h1, List.length_cons] at e2
      omega
    refine Ev.pos rfl (Ev.pos (by rw [List.length_cons]; omega) ?_)
    show Ev (fun k => if 0 < ((a.length : Nat) : Int) then (if 1 < ((a.length : Nat) : Int) then aR_ReadAnswer.l0 k (B t) (a :: rs) ((0 + 1 : Nat) : Int) (a.getD 0 0) (a.getD 1 0) (((rs.take 0).map toRet).map asRef) else none) else none) _
    refine Ev.pos (by omega) (Ev.pos (by omega) (refReadA_l0 t a rs (fun r hr => (h7 r hr).1) hcount _ _ _ ?_ rs.length 0 (by omega)))
    obtain ⟨a0, a1, a2, rfl⟩ : ∃ a0 a1 a2, a = [a0, a1, a2] := by
      match a, h5 with
      | [a0, a1, a2], _ => exact ⟨a0, a1, a2, rfl⟩
    show Ev (fun k => (aR_WriteAnswer.f k a0 a1 ((rs.map toRet).map asRef)).bind fun bt => (if bt.2 = 0 then (if bt.1.toList = (B t).toList then (some (a0, a1, (rs.map toRet).map asRef, 0)) else (some (0, 0, ([] : List (S78)), 362))) else (some (0, 0, ([] : List (S78)), 362)))) _
    refine Ev.bind (refAnswer_ev a0 a1 (rs.map toRet) (by rw [List.length_map]; omega)) ?_
    have hR : answerR t = (if rightB a0 a1 (rs.map toRet) = true then (if a2 = ((rs.map toRet).length : Int) then (a0, a1, rs.map toRet, (0 : Int)) else (0, 0, [], 362)) else (0, 0, [], 362)) := by
      unfold answerR
      rw [if_pos hc, h1, answerSt_mk l ls _ rs h2 h3]
      rfl
    unfold answerS
    by_cases v : rightB a0 a1 (rs.map toRet) = true
    · rw [if_pos v]
      refine Ev.pos rfl ?_
      rw [B_list, B_list]
      by_cases e : answerText a0 a1 (rs.map toRet) = t
      · refine Ev.pos e (Ev.ret ?_)
        rw [← e, answerR_text a0 a1 (rs.map toRet) v]
      · refine Ev.neg e (Ev.ret ?_)
        have hno : answerR t ≠ (a0, a1, rs.map toRet, 0) := fun hh => e (answerR_zero t _ _ _ hh).2.1.symm
        rw [hR, if_pos v] at hno ⊢
        by_cases k : a2 = ((rs.map toRet).length : Int)
        · rw [if_pos k] at hno
          exact absurd rfl hno
        · rw [if_neg k]
          rfl
    · rw [if_neg v, hR, if_neg v]
      exact Ev.neg (by decide) (Ev.now _)
  · have hp : parseR backL returnW 3 2 t = ([], readC answerOk t) := by
      unfold parseR
      rw [if_neg hc]
    have hR : answerR t = (0, 0, [], readC answerOk t) := by
      unfold answerR
      rw [if_neg hc]
    rw [hp, hR]
    exact Ev.neg hc (Ev.now _)
theorem fileR_len (t : List UInt8) (n d : Int) (L : List S47) (e : Int) (h : fileR t = (n, d, L, e)) : L.length ≤ 1000 := by
  by_cases he : e = 0
  · subst he
    obtain ⟨v, _, _⟩ := fileR_zero t n d L h
    obtain ⟨_, hl, _⟩ := valid_orders v
    omega
  · obtain ⟨_, _, rfl⟩ := fileR_else t n d L e h he
    exact Nat.zero_le _
theorem answerR_len (t : List UInt8) (n d : Int) (L : List S49) (e : Int) (h : answerR t = (n, d, L, e)) : L.length ≤ 1000 := by
  by_cases he : e = 0
  · subst he
    obtain ⟨v, _, _⟩ := answerR_zero t n d L h
    obtain ⟨_, _, hl⟩ := right_parts v
    omega
  · obtain ⟨_, _, rfl⟩ := answerR_else t n d L e h he
    exact Nat.zero_le _
theorem reads_ev (t : List UInt8) (h : t.length ≤ 4611686018427387904) : Ev (fun k => aL_reads.f k (B t)) true := by
  unfold aL_reads.f
  refine Ev.bind (Read_ev t h) (Ev.bind (refRead_ev t h) (Ev.bind (ReadAnswer_ev t h) (Ev.bind (refReadAnswer_ev t h) ?_)))
  obtain ⟨⟨n, d, L, e⟩, hf⟩ : ∃ x, fileR t = x := ⟨_, rfl⟩
  obtain ⟨⟨n2, d2, R, e2⟩, ha⟩ : ∃ x, answerR t = x := ⟨_, rfl⟩
  have h1 := fileR_len t n d L e hf
  have h2 := answerR_len t n2 d2 R e2 ha
  rw [hf, ha]
  refine Ev.pos rfl (Ev.pos rfl (Ev.const (show aL_plain.f n d L = some (n, d, L) from rfl) (Ev.bind (sameFile_ev n d L (by omega)) (Ev.pos rfl (Ev.bind (old_ev n2 d2 R (by omega)) (Ev.bind (sameAnswer_ev n2 d2 (R.map asRef) (by rw [List.length_map]; omega)) (Ev.now true)))))))
end
end Go.Proofs.YtndojpcjhkncgaaGreatDoor.Q
end
section
namespace Go.Proofs.YtndojpcjhkncgaaGreatDoor.Q
open Go.RowKit Go.Proofs.YtndojpcjhkncgaaGreatDoorW.PrintWords Go.Proofs.YtndojpcjhkncgaaGreatDoorW.PrintLast Go.Proofs.YtndojpcjhkncgaaGreatDoorW.PrintMore
section
def aL_limits.l0 : Nat → Int → Int → Int → List (S47) → Int → Int → List (S49) → Option (Bool)
 | 0, _, _, _, _, _, _, _ => none
 | k + 1, x3, x167000, x167001, x167002, x168000, x168001, x168002 => if x3 ≤ 1000 then (if x167002.length < 3518437208883 then (if x168002.length < 8796093022208 then (aL_limits.l0 k (wrap64 (x3 + 1)) x167000 x167001 (x167002 ++ [(⟨wrap64 (1099511626776 + x3), 1099511627776, 1099511627776, 1098437885952, 1073741824⟩ : S47)]) x168000 x168001 (x168002 ++ [(⟨wrap64 (1099511626776 + x3), wrap64 (1 + (Int.tmod x3 9))⟩ : S49)])) else (none)) else (none)) else ((bank_Valid.f k x167000 x167001 x167002).bind fun t174 => (if t174 = true then (none) else ((bank_Right.f k x168000 x168001 x168002).bind fun t175 => (if t175 = true then (some false) else (if 1000 ≤ (x167002.length : Int) then ((some (x167002.take (1000 : Int).toNat : List (S47))).bind fun y176 => (if 1000 ≤ (x168002.length : Int) then ((some (x168002.take (1000 : Int).toNat : List (S49))).bind fun y179 => ((bank_Write.f k x167000 x167001 y176).bind fun bt182 => ((bank_WriteAnswer.f k x168000 x168001 y179).bind fun bt184 => ((bank_Read.f k bt182.1).bind fun bt186 => ((bank_ReadAnswer.f k bt184.1).bind fun bt193 => (if bt182.2 = 0 then (if bt184.2 = 0 then (if bt186.2.2.2 = 0 then (if bt193.2.2.2 = 0 then ((aL_plain.f bt186.1 bt186.2.1 bt186.2.2.1).bind fun bt200 => ((aL_plain.f x167000 x167001 y176).bind fun bt205 => ((aL_sameFile.f k bt200.1 bt200.2.1 bt200.2.2 bt205.1 bt205.2.1 bt205.2.2).bind fun t210 => (if t210 = true then ((aL_old.f k bt193.1 bt193.2.1 bt193.2.2.1).bind fun bt211 => ((aL_old.f k x168000 x168001 y179).bind fun bt216 => ((aL_sameAnswer.f k bt211.1 bt211.2.1 bt211.2.2 bt216.1 bt216.2.1 bt216.2.2).bind fun t221 => (if t221 = true then (if 1048576 ≤ 281474976710656 then ((some (List.replicate 1048576 0 : List Int)).bind fun y222 => ((bank_Read.f k (strOfNums y222)).bind fun bt225 => (if y222.length < 140737488355328 then ((bank_Read.f k (strOfNums (y222 ++ [0]))).bind fun bt235 => (if bt225.2.2.2 = 360 then (some (bt235.2.2.2 == 3)) else (none))) else (none)))) else (none)) else (some false))))) else (none))))) else (none)) else (none)) else (none)) else (none))))))) else (none))) else (none))))))
def aL_limits.f (k : Nat)  : Option (Bool) := aL_limits.l0 k 0 1099511627776 65535 ([] : List (S47)) 1099511627776 65535 ([] : List (S49))
def aL_limits.T15 : Bool × List (List Nat × List Nat) := (true, [([], []), ([0], [0]), ([1], [1]), ([2], [2]), ([3, 2], [2, 3]), ([2, 4], [2, 4]), ([5, 2], [5]), ([6], [6]), ([7, 6], [6, 7]), ([6, 8], [6, 8]), ([9, 6], [9]), ([10], [10]), ([11, 10], [10, 11]), ([10, 12], [10, 12]), ([13, 10], [13]), ([14], [14]), ([15, 14, 14], [14, 15]), ([14], [14]), ([17, 16, 14], [14, 17]), ([16, 18, 18, 14], [14, 16, 18]), ([19, 14], [14, 19]), ([14, 20], [14, 20]), ([21, 19], [21]), ([22], [22]), ([23, 22, 22], [22, 23]), ([22], [22]), ([25, 24, 22], [22, 25]), ([24, 26, 26, 22], [22, 24, 26]), ([27, 22], [22, 27]), ([22, 28], [22, 28])])
def aL_limits.B15 : List Nat := [0, 1, 3, 7, 15, 31, 63, 127, 255, 511, 1023, 2047, 4095, 8191, 16383, 32767, 65535, 32767, 262143, 524287, 1048575, 2097151, 4194303, 8388607, 16777215, 8388607, 67108863, 134217727, 268435455, 536870911]
theorem aL_limits.tab15 : rtab .any (opsOf Tryz.f19 15) = aL_limits.T15 := by kernel_rfl
theorem aL_limits.bits15 : waitsOk aL_limits.T15.2 aL_limits.B15 = true := by kernel_rfl
set_option maxHeartbeats 8000000 in
set_option maxRecDepth 100000 in
theorem aL_limits.calls (k : Nat)  (r : Bool) (w : World) (hG : GG w) (h : aL_limits.f k  = some r) :
  Calls Tryz.prog 19 #[] w fun e w' => e = .returned (.bool r) ∧ Below w.heap.size w w' := by
 have hu27 := Tryz.underlying27; have hu30 := Tryz.underlying30; have hu47 := Tryz.underlying47; have hu49 := Tryz.underlying49; have HG := Zs.mk hG; clear hG; have HB := Zs.mk (Below.refl w.heap.size w); have H : (aL_limits.l0 k 0 1099511627776 65535 ([] : List (S47)) 1099511627776 65535 ([] : List (S49))) = some r := h; clear h; have H' := Zs.mk H; clear H
 go_enter Tryz.func19, Tryz.ntmps19
 go_wp2_with (first | ((with_reducible refine gkd (N := 1) rfl ?_); refine bxe ?hg (N := 1) ?hd (cs := #[.int .i64 0, .int .i64 0, .slice none 0 0]) (t := 27) ?hr ?_; (case hd => rfl); (case hg => rfl); (case hr => first | (go_simp; done) | (go_simp; rfl)); intro gb166 hg w1 hbox hb; have BK166 := Zs.mk (hbox); have GW166 := zG (w := w) hg; have GE166 := zG (w := w) hg; replace HB := zBs hb; clear hb hbox hg; obtain ⟨hcz2_0, hcz2_1, hcz2_2⟩ := zC3 BK166; obtain ⟨hfz2_0, hfz2_1, hfz2_2⟩ := zZ3 BK166) | ((with_reducible refine gkd (N := 2) rfl ?_); refine bxe ?hg (N := 2) ?hd (cs := #[.int .i64 0, .int .i64 0, .slice none 0 0]) (t := 30) ?hr ?_; (case hd => rfl); (case hg => rfl); (case hr => first | (go_simp; done) | (go_simp; rfl)); intro gb167 hg w3 hbox hb; have BK167 := Zs.mk (hbox); have GW167 := zG (w := w) hg; have GE167 := zG (w := w) hg; replace HB := zBs hb; have NB166_167 := Zs.mk ((by rw [hg]; exact Nat.ne_of_lt (blk_lt (g := gb166) (o := .cells #[.int .i64 1099511627776, .int .i64 65535, .slice none 0 0] 27 (0, 0)) (zY BK166)) : gb166 ≠ gb167)); have NB167_166 := Zs.mk ((by rw [hg]; exact Nat.ne_of_gt (blk_lt (g := gb166) (o := .cells #[.int .i64 1099511627776, .int .i64 65535, .slice none 0 0] 27 (0, 0)) (zY BK166)) : gb167 ≠ gb166)); replace BK166 := Zs.mk (blk_below (g := gb166) (o := .cells #[.int .i64 1099511627776, .int .i64 65535, .slice none 0 0] 27 (0, 0)) (zY BK166) hb); clear hb hbox hg; have hnb4 := NB167_166.out; have hnc4 := NB166_167.out; obtain ⟨hcz5_0, hcz5_1, hcz5_2⟩ := zC3 BK167; obtain ⟨hfz5_0, hfz5_1, hfz5_2⟩ := zZ3 BK167))
 go_loopg [3] k (fun kq v3 w' => ∃ (x3_1 : Int) (x167002_1 : List (S47)) (x168002_1 : List (S49)) (u167002 : Value) (u168002 : Value), v3 = .int .i64 x3_1 ∧ Zs (aL_limits.l0 kq x3_1 1099511627776 65535 x167002_1 1099511627776 65535 x168002_1 = some r) ∧ Zs (kq ≤ k) ∧ Zs (Kd.R k47 47 w' w.heap.size (fun _ => True) u167002 x167002_1) ∧ Zs (Kd.R k49 49 w' w.heap.size (fun _ => True) u168002 x168002_1) ∧ Zs (w'.heap[gb166]? = some (.cells #[.int .i64 1099511627776, .int .i64 65535, u167002] 27 (0, 0))) ∧ Zs (w'.heap[gb167]? = some (.cells #[.int .i64 1099511627776, .int .i64 65535, u168002] 30 (0, 0))) ∧ Zs (Below w.heap.size w w'))
 case atStart => exact ⟨(0), (([] : List (S47))), (([] : List (S49))), (.slice none 0 0), (.slice none 0 0), zs, H', ⟨Nat.le_refl _⟩, ⟨by first | exact Kd.R_nil _ _ _ _ _ | exact Kd.N_nil _ _ _ _ _ | exact Kd.V_nil _ _ _ _ _ | exact Kd.Q_nil _ _ _ _ _ | exact Kd.S_nil _ _ _ _ _⟩, ⟨by first | exact Kd.R_nil _ _ _ _ _ | exact Kd.N_nil _ _ _ _ _ | exact Kd.V_nil _ _ _ _ _ | exact Kd.Q_nil _ _ _ _ _ | exact Kd.S_nil _ _ _ _ _⟩, ⟨zF BK166⟩, ⟨zY BK167⟩, ⟨zB⟩⟩
 case round =>
  clear H'
  obtain ⟨x3_1, x167002_1, x168002_1, u167002, u168002, rfl, HA, HK1, HO_167002, HO_168002, BK166, BK167, HB⟩ := hrel
  cases gk with
  | zero => exact absurd HA.out (by simp [aL_limits.l0])
  | succ k1 =>
   have H := HA.out; clear HA
   simp only [aL_limits.l0] at H
   by_cases c6 : x3_1 ≤ 1000
   ·
    rw [if_pos c6] at H
    have c6b0 := decide_eq_true c6; clear c6
    have c7 := zc H
    rw [if_pos c7] at H
    have LMc7 := Zs.mk c7; clear c7
    obtain ⟨y168, hy168⟩ : ∃ y_ : List (S47), y_ = (x167002_1 ++ [(⟨wrap64 (1099511626776 + x3_1), 1099511627776, 1099511627776, 1098437885952, 1073741824⟩ : S47)]) := ⟨_, rfl⟩
    replace H : (if x168002_1.length < 8796093022208 then (aL_limits.l0 k1 (wrap64 (x3_1 + 1)) 1099511627776 65535 y168 1099511627776 65535 (x168002_1 ++ [(⟨wrap64 (1099511626776 + x3_1), wrap64 (1 + (Int.tmod x3_1 9))⟩ : S49)])) else (none)) = some r := by first | (rw [hy168]; with_reducible exact H) | (have H2_ := (Option.bind_some _ _).symm.trans H; rw [hy168]; with_reducible exact H2_) | (have H2_ := (Option.bind_some _ _).symm.trans H; with_reducible exact H2_) | with_reducible exact H | (rw [hy168]; exact H) | exact H
    have Ny168 := Zs.mk hy168; clear hy168
    have c8 := zc H
    rw [if_pos c8] at H
    have LMc8 := Zs.mk c8; clear c8
    obtain ⟨y171, hy171⟩ : ∃ y_ : List (S49), y_ = (x168002_1 ++ [(⟨wrap64 (1099511626776 + x3_1), wrap64 (1 + (Int.tmod x3_1 9))⟩ : S49)]) := ⟨_, rfl⟩
    replace H : (aL_limits.l0 k1 (wrap64 (x3_1 + 1)) 1099511627776 65535 y168 1099511627776 65535 y171) = some r := by first | (rw [hy171]; with_reducible exact H) | (have H2_ := (Option.bind_some _ _).symm.trans H; rw [hy171]; with_reducible exact H2_) | (have H2_ := (Option.bind_some _ _).symm.trans H; with_reducible exact H2_) | with_reducible exact H | (rw [hy171]; exact H) | exact H
    have Ny171 := Zs.mk hy171; clear hy171; have H' := Zs.mk H; clear H; have hnb9 := NB166_167.out; have hnc9 := NB167_166.out; obtain ⟨hcz10_0, hcz10_1, hcz10_2⟩ := zC3 BK166; obtain ⟨hfz10_0, hfz10_1, hfz10_2⟩ := zZ3 BK166
    go_wp2_with (first | ((with_reducible refine gate_builtin (b := .append) (xs := #[.tmp 24, .tmp 28]) rfl ?_); at_builtin; refine Kd.R_append k47 (w0 := w) w.heap.size rfl (.tmp 24) (.tmp 28) 25 47 (.agg #[(.int .i64 0), (.int .i64 0), (.int .i64 0), (.int .i64 0), (.int .i64 0)]) 40 rfl Tryz.underlying25 info47 rfl (by decide) (by omega) u167002 x167002_1 (⟨wrap64 (1099511626776 + x3_1), 1099511627776, 1099511627776, 1098437885952, 1073741824⟩ : S47) [.int .i64 (wrap64 (1099511626776 + x3_1)), .int .i64 1099511627776, .int .i64 1099511627776, .int .i64 1098437885952, .int .i64 1073741824] (fun _ => True) (fun _ => False) rfl rfl ?aP (fun _ hk => hk.elim) ?aF ?aO ?aB ?aS ?aL ?_; (case aP => exact k47_mkM _ _ _ (⟨wrap64 (1099511626776 + x3_1), 1099511627776, 1099511627776, 1098437885952, 1073741824⟩ : S47)); (case aB => exact zB); (case aF => exact (fun _ _ => trivial)); (case aO => exact (zR HO_167002)); (case aS => exact (bsz zB)); (case aL => have := LMc7.out; omega); intro v169 w11 ho hb hg hat; rw [← Ny168.out] at ho; replace HO_168002 := Zs.mk (Kd.R_over' (zR HO_168002) (Kd.Rtd (zR HO_167002)) (by decide) hg); replace BK166 := Zs.mk (blk_grown (g := gb166) (o := .cells #[.int .i64 1099511627776, .int .i64 65535, u167002] 27 (0, 0)) (zK BK166) hg (Kd.R_ne HO_167002.out BK166.out (by decide))); replace BK167 := Zs.mk (blk_grown (g := gb167) (o := .cells #[.int .i64 1099511627776, .int .i64 65535, u168002] 30 (0, 0)) (zK BK167) hg (Kd.R_ne HO_167002.out BK167.out (by decide))); replace HB := Zs.mk (hb); have HO170 := Zs.mk (ho); clear HO_167002; clear ho hb hg hat; obtain ⟨Ao12, co12, eo12⟩ := Kd.R_slice HO170.out; subst eo12; obtain ⟨hcz13_0, hcz13_1, hcz13_2⟩ := zC3 BK166; obtain ⟨hfz13_0, hfz13_1, hfz13_2⟩ := zZ3 BK166; obtain ⟨hcz14_0, hcz14_1, hcz14_2⟩ := zC3 BK167; obtain ⟨hfz14_0, hfz14_1, hfz14_2⟩ := zZ3 BK167) | ((with_reducible refine gate_builtin (b := .append) (xs := #[.tmp 32, .tmp 39]) rfl ?_); at_builtin; refine Kd.R_append k49 (w0 := w) w.heap.size rfl (.tmp 32) (.tmp 39) 28 49 (.agg #[(.int .i64 0), (.int .i64 0)]) 16 rfl Tryz.underlying28 info49 rfl (by decide) (by omega) u168002 x168002_1 (⟨wrap64 (1099511626776 + x3_1), wrap64 (1 + (Int.tmod x3_1 9))⟩ : S49) [.int .i64 (wrap64 (1099511626776 + x3_1)), .int .i64 (wrap64 (1 + (Int.tmod x3_1 9)))] (fun _ => True) (fun _ => False) rfl (by first | (go_simp; done) | (go_simp; rfl)) ?aP (fun _ hk => hk.elim) ?aF ?aO ?aB ?aS ?aL ?_; (case aP => exact k49_mkM _ _ _ (⟨wrap64 (1099511626776 + x3_1), wrap64 (1 + (Int.tmod x3_1 9))⟩ : S49)); (case aB => exact zB); (case aF => exact (fun _ _ => trivial)); (case aO => exact (by (with_reducible repeat (first | apply Kd.Ral | apply Kd.Rdn | apply Kd.Rdw)); exact Kd.R_mono (Kd.R_far (p := ⟨gb166, 2, none⟩) (Kd.Rty HO_168002.out BK166.out (by decide)) (fun _ hk => hk.2) (.slice Ao12 y168.length co12)) (fun _ hk => trivial))); (case aS => exact (bsz zB)); (case aL => have := LMc8.out; omega); intro v172 w15 ho hb hg hat; rw [← Ny171.out] at ho; replace BK167 := Zs.mk (blk_grown (g := gb167) (o := .cells #[.int .i64 1099511627776, .int .i64 65535, u168002] 30 (0, 0)) (zF BK167) hg (Kd.R_ne HO_168002.out BK167.out (by decide))); replace HO170 := Zs.mk (Kd.R_over' (by (with_reducible repeat (first | apply Kd.Ral | apply Kd.Rdn | apply Kd.Rdw)); exact (Kd.R_mono (Kd.R_far (p := ⟨gb166, 2, none⟩) (Kd.Rty HO170.out BK166.out (by decide)) (fun _ hk => hk.2) (.slice Ao12 y168.length co12)) (fun _ h_ => h_.1))) (Kd.Rtd (by (with_reducible repeat (first | apply Kd.Ral | apply Kd.Rdn | apply Kd.Rdw)); exact (Kd.R_mono (Kd.R_far (p := ⟨gb166, 2, none⟩) (Kd.Rty HO_168002.out BK166.out (by decide)) (fun _ hk => hk.2) (.slice Ao12 y168.length co12)) (fun _ h_ => h_.1)))) (by decide) hg); replace BK166 := Zs.mk (blk_grown (g := gb166) (o := .cells #[.int .i64 1099511627776, .int .i64 65535, .slice Ao12 y168.length co12] 27 (0, 0)) (zY BK166) hg (Kd.R_ne HO_168002.out BK166.out (by decide))); replace HB := Zs.mk (hb); have HO173 := Zs.mk (ho); clear HO_168002; clear ho hb hg hat; obtain ⟨Ao16, co16, eo16⟩ := Kd.R_slice HO173.out; subst eo16; obtain ⟨hcz17_0, hcz17_1, hcz17_2⟩ := zC3 BK167; obtain ⟨hfz17_0, hfz17_1, hfz17_2⟩ := zZ3 BK167))
    go_roundg k1
    case measure => have := HK1.out; omega
    case rel => exact ⟨(wrap64 (x3_1 + 1)), (y168), (y171), (.slice Ao12 y168.length co12), (.slice Ao16 y171.length co16), zs, H', ⟨by have := HK1.out; omega⟩, ⟨by (with_reducible repeat (first | apply Kd.Ral | apply Kd.Rdn | apply Kd.Rdw)); exact Kd.R_mono (Kd.R_far (p := ⟨gb167, 2, none⟩) (Kd.Rty HO170.out BK167.out (by decide)) (fun _ hk => hk.2) (.slice Ao16 y171.length co16)) (fun _ hk => trivial)⟩, ⟨by (with_reducible repeat (first | apply Kd.Ral | apply Kd.Rdn | apply Kd.Rdw)); exact Kd.R_mono (Kd.R_far (p := ⟨gb167, 2, none⟩) (Kd.Rty HO173.out BK167.out (by decide)) (fun _ hk => hk.2) (.slice Ao16 y171.length co16)) (fun _ hk => trivial)⟩, ⟨zF BK166⟩, ⟨zY BK167⟩, ⟨zB⟩⟩
   ·
    rw [if_neg c6] at H
    have c6b0 := decide_eq_false c6; clear c6; obtain ⟨t174, A18, H⟩ := zb H; (try dsimp only [-Int.reduceToNat] at H)
    have c19 := zcn H
    replace c19 := Bool.eq_false_iff.mpr c19; subst c19
    rw [if_neg (show ¬ (false = true) by decide)] at H
    obtain ⟨t175, A20, H⟩ := zb H; (try dsimp only [-Int.reduceToNat] at H)
    by_cases c21 : t175 = true
    ·
     subst c21
     rw [if_pos rfl] at H
     obtain rfl := Option.some.inj H; have hnb22 := NB166_167.out; have hnc22 := NB167_166.out; obtain ⟨hcz23_0, hcz23_1, hcz23_2⟩ := zC3 BK166; obtain ⟨hfz23_0, hfz23_1, hfz23_2⟩ := zZ3 BK166; obtain ⟨Ao24, co24, eo24⟩ := Kd.R_slice HO_167002.out; subst eo24
     go_wp2_with (first | ((with_reducible refine gkc (f := 22) rfl ?_); refine zgo (some 43) Tryz.func22 #[.agg #[.int .i64 1099511627776, .int .i64 65535, .slice Ao24 x167002_1.length co24]] ?_; (with_reducible refine (bank_Valid.calls k1 1099511627776 65535 _ _ x167002_1 false _ ?side1 ?side2 A18.out).mono ?_); (case side1 => exact zQ HO_167002); (case side2 => exact (Kd.R_reads' HO_167002.out).2.1); rintro e w25 ⟨rfl, hb⟩; refine ⟨_, rfl, ?_⟩; replace HO_167002 := zRb HO_167002 hb; replace HO_168002 := zRb HO_168002 hb; replace BK166 := zKb BK166 hb; replace BK167 := zKb BK167 hb; replace HB := zBs hb; obtain ⟨hcz26_0, hcz26_1, hcz26_2⟩ := zC3 BK167; obtain ⟨hfz26_0, hfz26_1, hfz26_2⟩ := zZ3 BK167; obtain ⟨Ao27, co27, eo27⟩ := Kd.R_slice HO_168002.out; subst eo27) | (go_at_call 28; (with_reducible refine (bank_Right.calls k1 1099511627776 65535 _ _ x168002_1 true _ ?side1 ?side2 A20.out).mono ?_); (case side1 => exact zQ HO_168002); (case side2 => exact (Kd.R_reads' HO_168002.out).2.1); rintro e w28 ⟨rfl, hb⟩; replace HO_167002 := zRb HO_167002 hb; replace HO_168002 := zRb HO_168002 hb; replace BK166 := zKb BK166 hb; replace BK167 := zKb BK167 hb; replace HB := zBs hb))
     go_ret
     exact ⟨zE, zB⟩
    ·
     replace c21 := Bool.eq_false_iff.mpr c21; subst c21
     rw [if_neg (show ¬ (false = true) by decide)] at H
     have c29 := zc H
     rw [if_pos c29] at H
     have c29b0 := eq_true c29; have c29b1 := decide_eq_true c29; clear c29
     obtain ⟨y176, hy176⟩ : ∃ y_ : List (S47), y_ = (x167002_1.take (1000 : Int).toNat) := ⟨_, rfl⟩
     replace H : (if 1000 ≤ (x168002_1.length : Int) then ((some (x168002_1.take (1000 : Int).toNat : List (S49))).bind fun y179 => ((bank_Write.f k1 1099511627776 65535 y176).bind fun bt182 => ((bank_WriteAnswer.f k1 1099511627776 65535 y179).bind fun bt184 => ((bank_Read.f k1 bt182.1).bind fun bt186 => ((bank_ReadAnswer.f k1 bt184.1).bind fun bt193 => (if bt182.2 = 0 then (if bt184.2 = 0 then (if bt186.2.2.2 = 0 then (if bt193.2.2.2 = 0 then ((aL_plain.f bt186.1 bt186.2.1 bt186.2.2.1).bind fun bt200 => ((aL_plain.f 1099511627776 65535 y176).bind fun bt205 => ((aL_sameFile.f k1 bt200.1 bt200.2.1 bt200.2.2 bt205.1 bt205.2.1 bt205.2.2).bind fun t210 => (if t210 = true then ((aL_old.f k1 bt193.1 bt193.2.1 bt193.2.2.1).bind fun bt211 => ((aL_old.f k1 1099511627776 65535 y179).bind fun bt216 => ((aL_sameAnswer.f k1 bt211.1 bt211.2.1 bt211.2.2 bt216.1 bt216.2.1 bt216.2.2).bind fun t221 => (if t221 = true then (if 1048576 ≤ 281474976710656 then ((some (List.replicate 1048576 0 : List Int)).bind fun y222 => ((bank_Read.f k1 (strOfNums y222)).bind fun bt225 => (if y222.length < 140737488355328 then ((bank_Read.f k1 (strOfNums (y222 ++ [0]))).bind fun bt235 => (if bt225.2.2.2 = 360 then (some (bt235.2.2.2 == 3)) else (none))) else (none)))) else (none)) else (some false))))) else (none))))) else (none)) else (none)) else (none)) else (none))))))) else (none)) = some r := by first | (rw [hy176]; with_reducible exact H) | (have H2_ := (Option.bind_some _ _).symm.trans H; rw [hy176]; with_reducible exact H2_) | (have H2_ := (Option.bind_some _ _).symm.trans H; with_reducible exact H2_) | with_reducible exact H | (rw [hy176]; exact H) | exact H
     have Ny176 := Zs.mk hy176; clear hy176
     have c30 := zc H
     rw [if_pos c30] at H
     have c30b0 := eq_true c30; have c30b1 := decide_eq_true c30; clear c30
     obtain ⟨y179, hy179⟩ : ∃ y_ : List (S49), y_ = (x168002_1.take (1000 : Int).toNat) := ⟨_, rfl⟩
     replace H : ((bank_Write.f k1 1099511627776 65535 y176).bind fun bt182 => ((bank_WriteAnswer.f k1 1099511627776 65535 y179).bind fun bt184 => ((bank_Read.f k1 bt182.1).bind fun bt186 => ((bank_ReadAnswer.f k1 bt184.1).bind fun bt193 => (if bt182.2 = 0 then (if bt184.2 = 0 then (if bt186.2.2.2 = 0 then (if bt193.2.2.2 = 0 then ((aL_plain.f bt186.1 bt186.2.1 bt186.2.2.1).bind fun bt200 => ((aL_plain.f 1099511627776 65535 y176).bind fun bt205 => ((aL_sameFile.f k1 bt200.1 bt200.2.1 bt200.2.2 bt205.1 bt205.2.1 bt205.2.2).bind fun t210 => (if t210 = true then ((aL_old.f k1 bt193.1 bt193.2.1 bt193.2.2.1).bind fun bt211 => ((aL_old.f k1 1099511627776 65535 y179).bind fun bt216 => ((aL_sameAnswer.f k1 bt211.1 bt211.2.1 bt211.2.2 bt216.1 bt216.2.1 bt216.2.2).bind fun t221 => (if t221 = true then (if 1048576 ≤ 281474976710656 then ((some (List.replicate 1048576 0 : List Int)).bind fun y222 => ((bank_Read.f k1 (strOfNums y222)).bind fun bt225 => (if y222.length < 140737488355328 then ((bank_Read.f k1 (strOfNums (y222 ++ [0]))).bind fun bt235 => (if bt225.2.2.2 = 360 then (some (bt235.2.2.2 == 3)) else (none))) else (none)))) else (none)) else (some false))))) else (none))))) else (none)) else (none)) else (none)) else (none)))))) = some r := by first | (rw [hy179]; with_reducible exact H) | (have H2_ := (Option.bind_some _ _).symm.trans H; rw [hy179]; with_reducible exact H2_) | (have H2_ := (Option.bind_some _ _).symm.trans H; with_reducible exact H2_) | with_reducible exact H | (rw [hy179]; exact H) | exact H
     have Ny179 := Zs.mk hy179; clear hy179; obtain ⟨⟨t182, t183⟩, A31, H⟩ := zb H; (try dsimp only [-Int.reduceToNat] at H); obtain ⟨⟨t184, t185⟩, A32, H⟩ := zb H; (try dsimp only [-Int.reduceToNat] at H); obtain ⟨⟨t186, t187, t188, t191⟩, A33, H⟩ := zb H; (try dsimp only [-Int.reduceToNat] at H); obtain ⟨⟨t193, t194, t195, t198⟩, A34, H⟩ := zb H; (try dsimp only [-Int.reduceToNat] at H)
     have c35 := zc H
     rw [if_pos c35] at H
     obtain ⟨c35b0, c35b1⟩ := zeq c35; clear c35
     have c36 := zc H
     rw [if_pos c36] at H
     obtain ⟨c36b0, c36b1⟩ := zeq c36; clear c36
     have c37 := zc H
     rw [if_pos c37] at H
     obtain ⟨c37b0, c37b1⟩ := zeq c37; clear c37
     have c38 := zc H
     rw [if_pos c38] at H
     obtain ⟨c38b0, c38b1⟩ := zeq c38; clear c38; obtain ⟨⟨t200, t201, t202⟩, A39, H⟩ := zb H; (try dsimp only [-Int.reduceToNat] at H); obtain ⟨⟨t205, t206, t207⟩, A40, H⟩ := zb H; (try dsimp only [-Int.reduceToNat] at H); obtain ⟨t210, A41, H⟩ := zb H; (try dsimp only [-Int.reduceToNat] at H)
     by_cases c42 : t210 = true
     ·
      subst c42
      rw [if_pos rfl] at H
      obtain ⟨⟨t211, t212, t213⟩, A43, H⟩ := zb H; (try dsimp only [-Int.reduceToNat] at H); obtain ⟨⟨t216, t217, t218⟩, A44, H⟩ := zb H; (try dsimp only [-Int.reduceToNat] at H); obtain ⟨t221, A45, H⟩ := zb H; (try dsimp only [-Int.reduceToNat] at H)
      by_cases c46 : t221 = true
      ·
       subst c46
       rw [if_pos rfl] at H
       have c47 := zc H
       rw [if_pos c47] at H
       have c47b0 := eq_true c47; have c47b1 := decide_eq_true c47; clear c47
       obtain ⟨y222, hy222⟩ : ∃ y_ : List Int, y_ = (List.replicate 1048576 0) := ⟨_, rfl⟩
       replace H : ((bank_Read.f k1 (strOfNums y222)).bind fun bt225 => (if y222.length < 140737488355328 then ((bank_Read.f k1 (strOfNums (y222 ++ [0]))).bind fun bt235 => (if bt225.2.2.2 = 360 then (some (bt235.2.2.2 == 3)) else (none))) else (none))) = some r := by first | (rw [hy222]; with_reducible exact H) | (have H2_ := (Option.bind_some _ _).symm.trans H; rw [hy222]; with_reducible exact H2_) | (have H2_ := (Option.bind_some _ _).symm.trans H; with_reducible exact H2_) | with_reducible exact H | (rw [hy222]; exact H) | exact H
       have Ny222 := Zs.mk hy222; clear hy222; obtain ⟨⟨t225, t226, t227, t230⟩, A48, H⟩ := zb H; (try dsimp only [-Int.reduceToNat] at H)
       have c49 := zc H
       rw [if_pos c49] at H
       have LMc49 := Zs.mk c49; clear c49
       obtain ⟨y232, hy232⟩ : ∃ y_ : List Int, y_ = (y222 ++ [0]) := ⟨_, rfl⟩
       replace H : ((bank_Read.f k1 (strOfNums y232)).bind fun bt235 => (if t230 = 360 then (some (bt235.2.2.2 == 3)) else (none))) = some r := by first | (rw [hy232]; with_reducible exact H) | (have H2_ := (Option.bind_some _ _).symm.trans H; rw [hy232]; with_reducible exact H2_) | (have H2_ := (Option.bind_some _ _).symm.trans H; with_reducible exact H2_) | with_reducible exact H | (rw [hy232]; exact H) | exact H
       have Ny232 := Zs.mk hy232; clear hy232; obtain ⟨⟨t235, t236, t237, t240⟩, A50, H⟩ := zb H; (try dsimp only [-Int.reduceToNat] at H)
       have c51 := zc H
       rw [if_pos c51] at H
       obtain ⟨c51b0, c51b1⟩ := zeq c51; clear c51; obtain rfl := Option.some.inj H; have hnb52 := NB166_167.out; have hnc52 := NB167_166.out; obtain ⟨hcz53_0, hcz53_1, hcz53_2⟩ := zC3 BK166; obtain ⟨hfz53_0, hfz53_1, hfz53_2⟩ := zZ3 BK166; obtain ⟨Ao54, co54, eo54⟩ := Kd.R_slice HO_167002.out; subst eo54
       go_upto_region 10 with (first | ((with_reducible refine gkc (f := 22) rfl ?_); refine zgo (some 43) Tryz.func22 #[.agg #[.int .i64 1099511627776, .int .i64 65535, .slice Ao54 x167002_1.length co54]] ?_; (with_reducible refine (bank_Valid.calls k1 1099511627776 65535 _ _ x167002_1 false _ ?side1 ?side2 A18.out).mono ?_); (case side1 => exact zQ HO_167002); (case side2 => exact (Kd.R_reads' HO_167002.out).2.1); rintro e w55 ⟨rfl, hb⟩; refine ⟨_, rfl, ?_⟩; replace HO_167002 := zRb HO_167002 hb; replace HO_168002 := zRb HO_168002 hb; replace BK166 := zKb BK166 hb; replace BK167 := zKb BK167 hb; replace HB := zBs hb; obtain ⟨hcz56_0, hcz56_1, hcz56_2⟩ := zC3 BK167; obtain ⟨hfz56_0, hfz56_1, hfz56_2⟩ := zZ3 BK167; obtain ⟨Ao57, co57, eo57⟩ := Kd.R_slice HO_168002.out; subst eo57) | (go_at_call 28; (with_reducible refine (bank_Right.calls k1 1099511627776 65535 _ _ x168002_1 false _ ?side1 ?side2 A20.out).mono ?_); (case side1 => exact zQ HO_168002); (case side2 => exact (Kd.R_reads' HO_168002.out).2.1); rintro e w58 ⟨rfl, hb⟩; replace HO_167002 := zRb HO_167002 hb; replace HO_168002 := zRb HO_168002 hb; replace BK166 := zKb BK166 hb; replace BK167 := zKb BK167 hb; replace HB := zBs hb; obtain ⟨hcz59_0, hcz59_1, hcz59_2⟩ := zC3 BK166; obtain ⟨hfz59_0, hfz59_1, hfz59_2⟩ := zZ3 BK166; have q60 : (1000 : Int) ≤ ((x167002_1.length : Int) : Int) := zD; obtain ⟨i060, hi060, _, hsz60, _⟩ := info_parts info47; have hcut60 := cut_to (P := Tryz.prog) 25 47 .i64 Tryz.underlying25 hi060 Ao54 x167002_1.length co54 1000 (by omega) q60 (Kd.R_reads' HO_167002.out).2.1; have hr60 := Kd.R_take (m := (1000 : Int).toNat) HO_167002.out (by omega); have hy60 : y176.length = (1000 : Int).toNat := (by rw [Ny176.out, List.length_take]; omega); rw [← Ny176.out] at hr60; rw [← hy60] at hr60 hcut60; clear hy60 hi060 hsz60 HO_167002; have HO178 := Zs.mk hr60; clear hr60; replace q60 := eq_true q60; obtain ⟨hcz61_0, hcz61_1, hcz61_2⟩ := zC3 BK167; obtain ⟨hfz61_0, hfz61_1, hfz61_2⟩ := zZ3 BK167; have q62 : (1000 : Int) ≤ ((x168002_1.length : Int) : Int) := zD; obtain ⟨i062, hi062, _, hsz62, _⟩ := info_parts info49; have hcut62 := cut_to (P := Tryz.prog) 28 49 .i64 Tryz.underlying28 hi062 Ao57 x168002_1.length co57 1000 (by omega) q62 (Kd.R_reads' HO_168002.out).2.1; have hr62 := Kd.R_take (m := (1000 : Int).toNat) HO_168002.out (by omega); have hy62 : y179.length = (1000 : Int).toNat := (by rw [Ny179.out, List.length_take]; omega); rw [← Ny179.out] at hr62; rw [← hy62] at hr62 hcut62; clear hy62 hi062 hsz62 HO_168002; have HO181 := Zs.mk hr62; clear hr62; replace q62 := eq_true q62))
       go_region
       try go_wp2_with (first | ((with_reducible refine gkc (f := 23) rfl ?_); refine zgo (some 58) Tryz.func23 #[.agg #[.int .i64 1099511627776, .int .i64 65535, .slice Ao54 y176.length co54]] ?_; (with_reducible refine (bank_Write.calls k1 1099511627776 65535 _ _ y176 t182 t183 _ ?side1 ?side2 ?side3 A31.out).mono ?_); (case side1 => refine (Kd.R_reads' (e := 47) (base := w.heap.size) (ok := fun k_ => True) (n := y176.length) (c := co54) ?_).2.2; exact (by (with_reducible repeat (first | apply Kd.Ral | apply Kd.Rdn | apply Kd.Rdw)); exact (Kd.R_mono (Kd.R_mono (Kd.R_far (p := ⟨gb167, 2, none⟩) (Kd.R_far (p := ⟨gb166, 2, none⟩) (Kd.Rty (Kd.Rty HO178.out BK166.out (by decide)) BK167.out (by decide)) (fun _ hk => hk.1.2) (.slice Ao54 y176.length co54)) (fun _ hk => hk.2) (.slice Ao57 y179.length co57)) (fun _ h_ => h_.1)) (fun _ h_ => h_.1)))); (case side2 => exact (Kd.R_reads' HO178.out).2.1); (case side3 => exact GG.below HG.out zB); rintro e w63 ⟨rfl, hb⟩; refine ⟨_, rfl, ?_⟩; replace HO178 := Zs.mk (Kd.R_below (by (with_reducible repeat (first | apply Kd.Ral | apply Kd.Rdn | apply Kd.Rdw)); exact (Kd.R_mono (Kd.R_mono (Kd.R_far (p := ⟨gb167, 2, none⟩) (Kd.R_far (p := ⟨gb166, 2, none⟩) (Kd.Rty (Kd.Rty HO178.out BK166.out (by decide)) BK167.out (by decide)) (fun _ hk => hk.1.2) (.slice Ao54 y176.length co54)) (fun _ hk => hk.2) (.slice Ao57 y179.length co57)) (fun _ h_ => h_.1)) (fun _ h_ => h_.1))) hb); replace HO181 := Zs.mk (Kd.R_below (by (with_reducible repeat (first | apply Kd.Ral | apply Kd.Rdn | apply Kd.Rdw)); exact (Kd.R_mono (Kd.R_mono (Kd.R_far (p := ⟨gb167, 2, none⟩) (Kd.R_far (p := ⟨gb166, 2, none⟩) (Kd.Rty (Kd.Rty HO181.out BK166.out (by decide)) BK167.out (by decide)) (fun _ hk => hk.1.2) (.slice Ao54 y176.length co54)) (fun _ hk => hk.2) (.slice Ao57 y179.length co57)) (fun _ h_ => h_.1)) (fun _ h_ => h_.1))) hb); replace BK166 := Zs.mk (blk_below (g := gb166) (o := .cells #[.int .i64 1099511627776, .int .i64 65535, .slice Ao54 y176.length co54] 27 (0, 0)) (zY BK166) hb); replace BK167 := Zs.mk (blk_below (g := gb167) (o := .cells #[.int .i64 1099511627776, .int .i64 65535, .slice Ao57 y179.length co57] 30 (0, 0)) (zY BK167) hb); replace HB := zBs hb; obtain ⟨hcz64_0, hcz64_1, hcz64_2⟩ := zC3 BK167; obtain ⟨hfz64_0, hfz64_1, hfz64_2⟩ := zZ3 BK167) | ((with_reducible refine gkc (f := 29) rfl ?_); refine zgo (some 63) Tryz.func29 #[.agg #[.int .i64 1099511627776, .int .i64 65535, .slice Ao57 y179.length co57]] ?_; (with_reducible refine (bank_WriteAnswer.calls k1 1099511627776 65535 _ _ y179 t184 t185 _ ?side1 ?side2 ?side3 A32.out).mono ?_); (case side1 => exact zQ HO181); (case side2 => exact (Kd.R_reads' HO181.out).2.1); (case side3 => exact GG.below HG.out zB); rintro e w65 ⟨rfl, hb⟩; refine ⟨_, rfl, ?_⟩; replace HO178 := zRb HO178 hb; replace HO181 := zRb HO181 hb; replace BK166 := zKb BK166 hb; replace BK167 := zKb BK167 hb; replace HB := zBs hb) | ((with_reducible refine gkc (f := 24) rfl ?_); refine zgo (some 68) Tryz.func24 #[.string t182] ?_; (with_reducible refine (bank_Read.calls k1 t182 t186 t187 t188 t191 _ ?side1 A33.out).mono ?_); (case side1 => exact GG.below HG.out zB); rintro e w66 ⟨v189, rfl, ho0, hb⟩; refine ⟨_, rfl, ?_⟩; replace HO181 := zRb HO181 hb; have HO190 := Zs.mk (Kd.R_lower (Kd.R_new' ho0 (Kd.R_lt (zR HO178))) (bsz zB)); replace HO178 := Zs.mk (Kd.R_elder' (zR HO178) (Kd.R_base ho0) hb); replace BK166 := zKb BK166 hb; replace BK167 := zKb BK167 hb; replace HB := zBs hb) | ((with_reducible refine gkd (N := 8) rfl ?_); refine bxe ?hg (N := 8) ?hd (cs := #[.int .i64 0, .int .i64 0, .slice none 0 0]) (t := 27) ?hr ?_; (case hd => rfl); (case hg => rfl); (case hr => first | (go_simp; done) | (go_simp; rfl)); intro gb192 hg w67 hbox hb; replace HO178 := zRb HO178 hb; replace HO181 := zRb HO181 hb; replace HO190 := zRb HO190 hb; have BK192 := Zs.mk (hbox); have GW192 := zG (w := w) hg; have GE192 := zG (w := w) hg; replace HB := zBs hb; have NB166_192 := zN hg (zK BK166); have NB192_166 := zM hg (zK BK166); replace BK166 := zKb BK166 hb; have NB167_192 := zN hg (zK BK167); have NB192_167 := zM hg (zK BK167); replace BK167 := zKb BK167 hb; clear hb hbox hg; have hnb68 := NB192_166.out; have hnc68 := NB166_192.out; have hnb69 := NB192_167.out; have hnc69 := NB167_192.out; obtain ⟨hcz70_0, hcz70_1, hcz70_2⟩ := zC3 BK192; obtain ⟨hfz70_0, hfz70_1, hfz70_2⟩ := zZ3 BK192; obtain ⟨Ao71, co71, eo71⟩ := Kd.R_slice HO190.out; subst eo71) | ((with_reducible refine gkc (f := 25) rfl ?_); refine zgo (some 73) Tryz.func25 #[.string t184] ?_; (with_reducible refine (bank_ReadAnswer.calls k1 t184 t193 t194 t195 t198 _ ?side1 A34.out).mono ?_); (case side1 => exact GG.below HG.out zB); rintro e w72 ⟨v196, rfl, ho0, hb⟩; refine ⟨_, rfl, ?_⟩; replace HO178 := Zs.mk (Kd.R_below (by (with_reducible repeat (first | apply Kd.Ral | apply Kd.Rdn | apply Kd.Rdw)); exact (Kd.R_mono (Kd.R_far (p := ⟨gb192, 2, none⟩) (Kd.R_far (p := ⟨gb192, 1, none⟩) (Kd.R_far (p := ⟨gb192, 0, none⟩) (Kd.Rty HO178.out BK192.out (by decide)) (fun _ hk => hk.2) (.int .i64 t186)) (fun _ hk => hk.2) (.int .i64 t187)) (fun _ hk => hk.2) (.slice Ao71 t188.length co71)) (fun _ h_ => h_.1))) hb); replace HO190 := Zs.mk (Kd.R_below (by (with_reducible repeat (first | apply Kd.Ral | apply Kd.Rdn | apply Kd.Rdw)); exact (Kd.R_mono (Kd.R_far (p := ⟨gb192, 2, none⟩) (Kd.R_far (p := ⟨gb192, 1, none⟩) (Kd.R_far (p := ⟨gb192, 0, none⟩) (Kd.Rty HO190.out BK192.out (by decide)) (fun _ hk => hk.2) (.int .i64 t186)) (fun _ hk => hk.2) (.int .i64 t187)) (fun _ hk => hk.2) (.slice Ao71 t188.length co71)) (fun _ h_ => h_.1))) hb); have HO197 := Zs.mk (Kd.R_lower (Kd.R_new' ho0 (Kd.R_lt (by (with_reducible repeat (first | apply Kd.Ral | apply Kd.Rdn | apply Kd.Rdw)); exact (Kd.R_mono (Kd.R_far (p := ⟨gb192, 2, none⟩) (Kd.R_far (p := ⟨gb192, 1, none⟩) (Kd.R_far (p := ⟨gb192, 0, none⟩) (Kd.Rty HO181.out BK192.out (by decide)) (fun _ hk => hk.2) (.int .i64 t186)) (fun _ hk => hk.2) (.int .i64 t187)) (fun _ hk => hk.2) (.slice Ao71 t188.length co71)) (fun _ h_ => h_.1))))) (bsz zB)); replace HO181 := Zs.mk (Kd.R_elder' (by (with_reducible repeat (first | apply Kd.Ral | apply Kd.Rdn | apply Kd.Rdw)); exact (Kd.R_mono (Kd.R_far (p := ⟨gb192, 2, none⟩) (Kd.R_far (p := ⟨gb192, 1, none⟩) (Kd.R_far (p := ⟨gb192, 0, none⟩) (Kd.Rty HO181.out BK192.out (by decide)) (fun _ hk => hk.2) (.int .i64 t186)) (fun _ hk => hk.2) (.int .i64 t187)) (fun _ hk => hk.2) (.slice Ao71 t188.length co71)) (fun _ h_ => h_.1))) (Kd.R_base ho0) hb); replace BK166 := Zs.mk (blk_below (zF BK166) hb); replace BK167 := Zs.mk (blk_below (zF BK167) hb); replace BK192 := Zs.mk (blk_below (g := gb192) (o := .cells #[.int .i64 t186, .int .i64 t187, .slice Ao71 t188.length co71] 27 (0, 0)) (zY BK192) hb); replace HB := zBs hb) | ((with_reducible refine gkd (N := 10) rfl ?_); refine bxe ?hg (N := 10) ?hd (cs := #[.int .i64 0, .int .i64 0, .slice none 0 0]) (t := 30) ?hr ?_; (case hd => rfl); (case hg => rfl); (case hr => first | (go_simp; done) | (go_simp; rfl)); intro gb199 hg w73 hbox hb; replace HO178 := zRb HO178 hb; replace HO181 := zRb HO181 hb; replace HO190 := zRb HO190 hb; replace HO197 := zRb HO197 hb; have BK199 := Zs.mk (hbox); have GW199 := zG (w := w) hg; have GE199 := zG (w := w) hg; replace HB := zBs hb; have NB166_199 := zN hg (zK BK166); have NB199_166 := zM hg (zK BK166); replace BK166 := zKb BK166 hb; have NB167_199 := zN hg (zK BK167); have NB199_167 := zM hg (zK BK167); replace BK167 := zKb BK167 hb; have NB192_199 := zN hg (zK BK192); have NB199_192 := zM hg (zK BK192); replace BK192 := zKb BK192 hb; clear hb hbox hg; have hnb74 := NB199_166.out; have hnc74 := NB166_199.out; have hnb75 := NB199_167.out; have hnc75 := NB167_199.out; have hnb76 := NB199_192.out; have hnc76 := NB192_199.out; obtain ⟨hcz77_0, hcz77_1, hcz77_2⟩ := zC3 BK199; obtain ⟨hfz77_0, hfz77_1, hfz77_2⟩ := zZ3 BK199; obtain ⟨Ao78, co78, eo78⟩ := Kd.R_slice HO197.out; subst eo78))
       have n0_ : Zs (Kd.R k47 47 (((w73.setCell ⟨gb199, 0, none⟩ (.int .i64 t193)).setCell ⟨gb199, 1, none⟩ (.int .i64 t194)).setCell ⟨gb199, 2, none⟩ (.slice Ao78 t195.length co78)) w.heap.size (fun k_ => some k_ ≠ (.slice Ao71 t188.length co71 : Value).ownBlock) (.slice Ao54 y176.length co54) y176) := ⟨by (with_reducible repeat (first | apply Kd.Ral | apply Kd.Rdn | apply Kd.Rdw)); exact Kd.R_mono (Kd.R_far (p := ⟨gb199, 2, none⟩) (Kd.R_far (p := ⟨gb199, 1, none⟩) (Kd.R_far (p := ⟨gb199, 0, none⟩) (Kd.Rty HO178.out BK199.out (by decide)) (fun _ hk => hk.2) (.int .i64 t193)) (fun _ hk => hk.2) (.int .i64 t194)) (fun _ hk => hk.2) (.slice Ao78 t195.length co78)) (fun _ hk => hk.1.2)⟩
       have n1_ : Zs (Kd.R k49 49 (((w73.setCell ⟨gb199, 0, none⟩ (.int .i64 t193)).setCell ⟨gb199, 1, none⟩ (.int .i64 t194)).setCell ⟨gb199, 2, none⟩ (.slice Ao78 t195.length co78)) w.heap.size (fun k_ => some k_ ≠ (.slice Ao78 t195.length co78 : Value).ownBlock) (.slice Ao57 y179.length co57) y179) := ⟨by (with_reducible repeat (first | apply Kd.Ral | apply Kd.Rdn | apply Kd.Rdw)); exact Kd.R_mono (Kd.R_far (p := ⟨gb199, 2, none⟩) (Kd.R_far (p := ⟨gb199, 1, none⟩) (Kd.R_far (p := ⟨gb199, 0, none⟩) (Kd.Rty HO181.out BK199.out (by decide)) (fun _ hk => hk.2) (.int .i64 t193)) (fun _ hk => hk.2) (.int .i64 t194)) (fun _ hk => hk.2) (.slice Ao78 t195.length co78)) (fun _ hk => hk.1.2)⟩
       have n2_ : Zs (Kd.R k47 47 (((w73.setCell ⟨gb199, 0, none⟩ (.int .i64 t193)).setCell ⟨gb199, 1, none⟩ (.int .i64 t194)).setCell ⟨gb199, 2, none⟩ (.slice Ao78 t195.length co78)) w.heap.size (fun k_ => some k_ ≠ (.slice Ao54 y176.length co54 : Value).ownBlock) (.slice Ao71 t188.length co71) t188) := ⟨by (with_reducible repeat (first | apply Kd.Ral | apply Kd.Rdn | apply Kd.Rdw)); exact Kd.R_mono (Kd.R_far (p := ⟨gb199, 2, none⟩) (Kd.R_far (p := ⟨gb199, 1, none⟩) (Kd.R_far (p := ⟨gb199, 0, none⟩) (Kd.Rty HO190.out BK199.out (by decide)) (fun _ hk => hk.2) (.int .i64 t193)) (fun _ hk => hk.2) (.int .i64 t194)) (fun _ hk => hk.2) (.slice Ao78 t195.length co78)) (fun _ hk => hk.1.2)⟩
       have n3_ : Zs (Kd.R k49 49 (((w73.setCell ⟨gb199, 0, none⟩ (.int .i64 t193)).setCell ⟨gb199, 1, none⟩ (.int .i64 t194)).setCell ⟨gb199, 2, none⟩ (.slice Ao78 t195.length co78)) w.heap.size (fun k_ => some k_ ≠ (.slice Ao57 y179.length co57 : Value).ownBlock) (.slice Ao78 t195.length co78) t195) := ⟨by (with_reducible repeat (first | apply Kd.Ral | apply Kd.Rdn | apply Kd.Rdw)); exact Kd.R_mono (Kd.R_far (p := ⟨gb199, 2, none⟩) (Kd.R_far (p := ⟨gb199, 1, none⟩) (Kd.R_far (p := ⟨gb199, 0, none⟩) (Kd.Rty HO197.out BK199.out (by decide)) (fun _ hk => hk.2) (.int .i64 t193)) (fun _ hk => hk.2) (.int .i64 t194)) (fun _ hk => hk.2) (.slice Ao78 t195.length co78)) (fun _ hk => hk.1.2)⟩
       have n4_ : Zs ((((w73.setCell ⟨gb199, 0, none⟩ (.int .i64 t193)).setCell ⟨gb199, 1, none⟩ (.int .i64 t194)).setCell ⟨gb199, 2, none⟩ (.slice Ao78 t195.length co78)).heap[gb166]? = some (.cells #[.int .i64 1099511627776, .int .i64 65535, .slice Ao54 y176.length co54] 27 (0, 0))) := ⟨zF BK166⟩
       have n5_ : Zs ((((w73.setCell ⟨gb199, 0, none⟩ (.int .i64 t193)).setCell ⟨gb199, 1, none⟩ (.int .i64 t194)).setCell ⟨gb199, 2, none⟩ (.slice Ao78 t195.length co78)).heap[gb167]? = some (.cells #[.int .i64 1099511627776, .int .i64 65535, .slice Ao57 y179.length co57] 30 (0, 0))) := ⟨zF BK167⟩
       have n6_ : Zs ((((w73.setCell ⟨gb199, 0, none⟩ (.int .i64 t193)).setCell ⟨gb199, 1, none⟩ (.int .i64 t194)).setCell ⟨gb199, 2, none⟩ (.slice Ao78 t195.length co78)).heap[gb192]? = some (.cells #[.int .i64 t186, .int .i64 t187, .slice Ao71 t188.length co71] 27 (0, 0))) := ⟨zF BK192⟩
       have n7_ : Zs ((((w73.setCell ⟨gb199, 0, none⟩ (.int .i64 t193)).setCell ⟨gb199, 1, none⟩ (.int .i64 t194)).setCell ⟨gb199, 2, none⟩ (.slice Ao78 t195.length co78)).heap[gb199]? = some (.cells #[.int .i64 t193, .int .i64 t194, .slice Ao78 t195.length co78] 30 (0, 0))) := ⟨zY BK199⟩
       have n8_ : Zs (Below w.heap.size w (((w73.setCell ⟨gb199, 0, none⟩ (.int .i64 t193)).setCell ⟨gb199, 1, none⟩ (.int .i64 t194)).setCell ⟨gb199, 2, none⟩ (.slice Ao78 t195.length co78))) := ⟨zB⟩
       (try clear HO178)
       (try clear HO181)
       (try clear HO190)
       (try clear HO197)
       (try clear BK166)
       (try clear BK167)
       (try clear BK192)
       (try clear BK199)
       (try clear HB)
       generalize (((w73.setCell ⟨gb199, 0, none⟩ (.int .i64 t193)).setCell ⟨gb199, 1, none⟩ (.int .i64 t194)).setCell ⟨gb199, 2, none⟩ (.slice Ao78 t195.length co78)) = w79 at n0_ n1_ n2_ n3_ n4_ n5_ n6_ n7_ n8_ ⊢
       have HO178 := n0_; have HO181 := n1_; have HO190 := n2_; have HO197 := n3_; have BK166 := n4_; have BK167 := n5_; have BK192 := n6_; have BK199 := n7_; have HB := n8_; clear n0_ n1_ n2_ n3_ n4_ n5_ n6_ n7_ n8_; replace HO178 := Zs.mk (Kd.Rdw HO178.out); replace HO181 := Zs.mk (Kd.Rdw HO181.out); replace HO190 := Zs.mk (Kd.Rdw HO190.out); replace HO197 := Zs.mk (Kd.Rdw HO197.out); replace BK166 := Zs.mk (blk_drew BK166.out); replace BK167 := Zs.mk (blk_drew BK167.out); replace BK192 := Zs.mk (blk_drew BK192.out); replace BK199 := Zs.mk (blk_drew BK199.out); replace HB := Zs.mk (below_drew1 HB.out); 
       refine start_ (n := 30) (S := fun w' => w'.cell? ⟨gb192, 0, none⟩ = some (.int .i64 t186) ∧ w'.cell? ⟨gb192, 1, none⟩ = some (.int .i64 t187) ∧ w'.cell? ⟨gb192, 2, none⟩ = some (.slice Ao71 t188.length co71) ∧ w'.cell? ⟨gb166, 0, none⟩ = some (.int .i64 1099511627776) ∧ w'.cell? ⟨gb166, 1, none⟩ = some (.int .i64 65535) ∧ w'.cell? ⟨gb166, 2, none⟩ = some (.slice Ao54 y176.length co54) ∧ w'.cell? ⟨gb199, 0, none⟩ = some (.int .i64 t193) ∧ w'.cell? ⟨gb199, 1, none⟩ = some (.int .i64 t194) ∧ w'.cell? ⟨gb199, 2, none⟩ = some (.slice Ao78 t195.length co78) ∧ w'.cell? ⟨gb167, 0, none⟩ = some (.int .i64 1099511627776) ∧ w'.cell? ⟨gb167, 1, none⟩ = some (.int .i64 65535) ∧ w'.cell? ⟨gb167, 2, none⟩ = some (.slice Ao57 y179.length co57)) (ds := []) (zo 30) (by kernel_rfl) rfl rfl (zJ3 (zC3 BK192) (zJ3 (zC3 BK166) (zJ3 (zC3 BK199) (zC3 BK167)))) (fun hHeld => ?_); refine with_tabW aL_limits.tab15 aL_limits.bits15 (fun HT_ HW_ => ?_)
       generalize w79.drew = w80 at HO178 HO181 HO190 HO197 BK166 BK167 BK192 BK199 HB hHeld ⊢
       refine zp 0 76 (zm 30 1) ?_
       refine zp 1 77 (zm 30 3) ?_
       refine zp 2 78 (zm 30 7) ?_
       refine zp 3 79 (zm 30 15) ?_
       refine zp 4 80 (zm 30 31) ?_
       refine zp 5 81 (zm 30 63) ?_
       refine zp 6 82 (zm 30 127) ?_
       refine zp 7 83 (zm 30 255) ?_
       refine zp 8 84 (zm 30 511) ?_
       refine zp 9 85 (zm 30 1023) ?_
       refine zp 10 86 (zm 30 2047) ?_
       refine zp 11 87 (zm 30 4095) ?_
       refine zp 12 88 (zm 30 8191) ?_
       refine zp 13 89 (zm 30 16383) ?_
       refine zp 14 90 (zm 30 32767) ?_
       refine take_ (i := 15) (N := some 91) (v := ?_) (a' := ?_) (zm 30 65535) rfl rfl (take_ofW HT_.out HW_.out (by kernel_rfl)) (fun _ _ _ h => h) (Or.inl ⟨by rfl, ?_⟩) hHeld ?_ ?_
       rotate_left
       ·
        rintro w' ⟨s0, s1, s2, s3, s4, s5, s6, s7, s8, s9, s10, s11⟩
        go_simp
        with_reducible rfl
       rotate_left
       · simp only [Act.put, z1, z2, z3, i64_w, i32_w]; rfl
       refine take_ (i := 17) (N := some 93) (v := ?_) (a' := ?_) (zm 30 196607) rfl rfl (take_ofW HT_.out HW_.out (by kernel_rfl)) (fun _ _ _ h => h) (Or.inl ⟨by rfl, ?_⟩) hHeld ?_ ?_
       rotate_left
       ·
        rintro w' ⟨s0, s1, s2, s3, s4, s5, s6, s7, s8, s9, s10, s11⟩
        go_simp
        with_reducible rfl
       rotate_left
       · simp only [Act.put, z1, z2, z3, i64_w, i32_w]; rfl
       refine one_ (i := 16) (N := some 92) (zm 30 262143) rfl rfl (one_of HT_.out (by kernel_rfl)) (by decide) (fun K hK => ?_)
       refine goes_ Tryz.func14 (by kernel_rfl) rfl #[.agg #[.int .i64 t186, .int .i64 t187, .slice Ao71 t188.length co71]] (by rfl) rfl rfl (by (try simp only [List.map_toArray, List.map_cons, List.map_nil]); try rfl) ?_
       with_reducible refine (aL_plain.calls t186 t187 (fun k_ => some k_ = (.slice Ao71 t188.length co71 : Value).ownBlock) _ _ t188 t200 t201 t202 _ ?side1 A39.out).mono ?_
       (case side1 => exact Kd.R_V (Kd.R_tight rfl (Kd.Rty (Kd.Rty (Kd.Rty (Kd.Rty (Kd.R_apart' (Kd.R_apart' (HO190.out) (Kd.Rtd HO181.out) (by decide)) (Kd.Rtd HO197.out) (by decide)) BK166.out (by decide)) BK167.out (by decide)) BK192.out (by decide)) BK199.out (by decide))))
       rintro e w81 ⟨v203, rfl, ho0, hb⟩
       refine ⟨_, rfl, ?_⟩
       have HO204 := Zs.mk (Kd.V_lower (Kd.V_mono (ok' := fun k_ => some k_ ≠ (.slice Ao54 y176.length co54 : Value).ownBlock ∧ some k_ ≠ (.slice Ao57 y179.length co57 : Value).ownBlock ∧ some k_ ≠ (.slice Ao78 t195.length co78 : Value).ownBlock ∧ k_ ≠ gb166 ∧ k_ ≠ gb167 ∧ k_ ≠ gb192 ∧ k_ ≠ gb199) ho0 (fun k_ hk_ => ⟨Or.elim hk_ (fun hs_ => ((Kd.Rty (Kd.Rty (Kd.Rty (Kd.Rty (Kd.R_apart' (Kd.R_apart' (HO190.out) (Kd.Rtd HO181.out) (by decide)) (Kd.Rtd HO197.out) (by decide)) BK166.out (by decide)) BK167.out (by decide)) BK192.out (by decide)) BK199.out (by decide)).1 k_ hs_.symm).1.1.1.1.1.1) (fun hn_ => (Kd.fresh' (Kd.R_lt (zR HO178)) k_ hn_)), Or.elim hk_ (fun hs_ => ((Kd.Rty (Kd.Rty (Kd.Rty (Kd.Rty (Kd.R_apart' (Kd.R_apart' (HO190.out) (Kd.Rtd HO181.out) (by decide)) (Kd.Rtd HO197.out) (by decide)) BK166.out (by decide)) BK167.out (by decide)) BK192.out (by decide)) BK199.out (by decide)).1 k_ hs_.symm).1.1.1.1.1.2) (fun hn_ => (Kd.fresh' (Kd.R_lt (zR HO181)) k_ hn_)), Or.elim hk_ (fun hs_ => ((Kd.Rty (Kd.Rty (Kd.Rty (Kd.Rty (Kd.R_apart' (Kd.R_apart' (HO190.out) (Kd.Rtd HO181.out) (by decide)) (Kd.Rtd HO197.out) (by decide)) BK166.out (by decide)) BK167.out (by decide)) BK192.out (by decide)) BK199.out (by decide)).1 k_ hs_.symm).1.1.1.1.2) (fun hn_ => (Kd.fresh' (Kd.R_lt (zR HO197)) k_ hn_)), Or.elim hk_ (fun hs_ => ((Kd.Rty (Kd.Rty (Kd.Rty (Kd.Rty (Kd.R_apart' (Kd.R_apart' (HO190.out) (Kd.Rtd HO181.out) (by decide)) (Kd.Rtd HO197.out) (by decide)) BK166.out (by decide)) BK167.out (by decide)) BK192.out (by decide)) BK199.out (by decide)).1 k_ hs_.symm).1.1.1.2) (fun hn_ => (Kd.freshB (g := gb166) (o := .cells #[.int .i64 1099511627776, .int .i64 65535, .slice Ao54 y176.length co54] 27 (0, 0)) (zK BK166) k_ hn_)), Or.elim hk_ (fun hs_ => ((Kd.Rty (Kd.Rty (Kd.Rty (Kd.Rty (Kd.R_apart' (Kd.R_apart' (HO190.out) (Kd.Rtd HO181.out) (by decide)) (Kd.Rtd HO197.out) (by decide)) BK166.out (by decide)) BK167.out (by decide)) BK192.out (by decide)) BK199.out (by decide)).1 k_ hs_.symm).1.1.2) (fun hn_ => (Kd.freshB (g := gb167) (o := .cells #[.int .i64 1099511627776, .int .i64 65535, .slice Ao57 y179.length co57] 30 (0, 0)) (zK BK167) k_ hn_)), Or.elim hk_ (fun hs_ => ((Kd.Rty (Kd.Rty (Kd.Rty (Kd.Rty (Kd.R_apart' (Kd.R_apart' (HO190.out) (Kd.Rtd HO181.out) (by decide)) (Kd.Rtd HO197.out) (by decide)) BK166.out (by decide)) BK167.out (by decide)) BK192.out (by decide)) BK199.out (by decide)).1 k_ hs_.symm).1.2) (fun hn_ => (Kd.freshB (g := gb192) (o := .cells #[.int .i64 t186, .int .i64 t187, .slice Ao71 t188.length co71] 27 (0, 0)) (zK BK192) k_ hn_)), Or.elim hk_ (fun hs_ => ((Kd.Rty (Kd.Rty (Kd.Rty (Kd.Rty (Kd.R_apart' (Kd.R_apart' (HO190.out) (Kd.Rtd HO181.out) (by decide)) (Kd.Rtd HO197.out) (by decide)) BK166.out (by decide)) BK167.out (by decide)) BK192.out (by decide)) BK199.out (by decide)).1 k_ hs_.symm).2) (fun hn_ => (Kd.freshB (g := gb199) (o := .cells #[.int .i64 t193, .int .i64 t194, .slice Ao78 t195.length co78] 30 (0, 0)) (zK BK199) k_ hn_))⟩)) (bsz zB)); replace HO178 := zRb HO178 hb; replace HO181 := zRb HO181 hb; replace HO190 := zRb HO190 hb; replace HO197 := zRb HO197 hb; replace BK166 := zKb BK166 hb; replace BK167 := zKb BK167 hb; replace BK192 := zKb BK192 hb; replace BK199 := zKb BK199 hb; replace HB := zBs hb
       refine hK.out _ _ (zJ3 (zC3 BK192) (zJ3 (zC3 BK166) (zJ3 (zC3 BK199) (zC3 BK167)))) (fun hHeld => ?_)
       clear hK K
       refine norm_ (a' := ?_) ?_ ?_
       rotate_left
       ·
        show Act.put _ (some 92) _ = _
        simp only [Act.put, z1, z2, z3, i64_w, i32_w]
        rfl
       refine one_ (i := 18) (N := some 94) (zm 30 524287) rfl rfl (one_of HT_.out (by kernel_rfl)) (by decide) (fun K hK => ?_)
       refine goes_ Tryz.func14 (by kernel_rfl) rfl #[.agg #[.int .i64 1099511627776, .int .i64 65535, .slice Ao54 y176.length co54]] (by rfl) rfl rfl (by (try simp only [List.map_toArray, List.map_cons, List.map_nil]); try rfl) ?_
       with_reducible refine (aL_plain.calls 1099511627776 65535 (fun k_ => some k_ = (.slice Ao54 y176.length co54 : Value).ownBlock) _ _ y176 t205 t206 t207 _ ?side1 A40.out).mono ?_
       (case side1 => exact Kd.R_V (Kd.R_tight rfl (Kd.Rty (Kd.Rty (Kd.Rty (Kd.Rty (Kd.R_apart' (Kd.R_apart' (HO178.out) (Kd.Rtd HO181.out) (by decide)) (Kd.Rtd HO197.out) (by decide)) BK166.out (by decide)) BK167.out (by decide)) BK192.out (by decide)) BK199.out (by decide))))
       rintro e w82 ⟨v208, rfl, ho0, hb⟩
       refine ⟨_, rfl, ?_⟩
       replace HO204 := Zs.mk (Kd.V_below (zV HO204) hb); have HO209 := Zs.mk (Kd.V_lower (Kd.V_mono (ok' := fun k_ => some k_ ≠ (.slice Ao57 y179.length co57 : Value).ownBlock ∧ some k_ ≠ (.slice Ao71 t188.length co71 : Value).ownBlock ∧ some k_ ≠ (.slice Ao78 t195.length co78 : Value).ownBlock ∧ k_ ≠ gb166 ∧ k_ ≠ gb167 ∧ k_ ≠ gb192 ∧ k_ ≠ gb199) ho0 (fun k_ hk_ => ⟨Or.elim hk_ (fun hs_ => ((Kd.Rty (Kd.Rty (Kd.Rty (Kd.Rty (Kd.R_apart' (Kd.R_apart' (HO178.out) (Kd.Rtd HO181.out) (by decide)) (Kd.Rtd HO197.out) (by decide)) BK166.out (by decide)) BK167.out (by decide)) BK192.out (by decide)) BK199.out (by decide)).1 k_ hs_.symm).1.1.1.1.1.2) (fun hn_ => (Kd.fresh' (Kd.R_lt (zR HO181)) k_ hn_)), Or.elim hk_ (fun hs_ => ((Kd.Rty (Kd.Rty (Kd.Rty (Kd.Rty (Kd.R_apart' (Kd.R_apart' (HO178.out) (Kd.Rtd HO181.out) (by decide)) (Kd.Rtd HO197.out) (by decide)) BK166.out (by decide)) BK167.out (by decide)) BK192.out (by decide)) BK199.out (by decide)).1 k_ hs_.symm).1.1.1.1.1.1) (fun hn_ => (Kd.fresh' (Kd.R_lt (zR HO190)) k_ hn_)), Or.elim hk_ (fun hs_ => ((Kd.Rty (Kd.Rty (Kd.Rty (Kd.Rty (Kd.R_apart' (Kd.R_apart' (HO178.out) (Kd.Rtd HO181.out) (by decide)) (Kd.Rtd HO197.out) (by decide)) BK166.out (by decide)) BK167.out (by decide)) BK192.out (by decide)) BK199.out (by decide)).1 k_ hs_.symm).1.1.1.1.2) (fun hn_ => (Kd.fresh' (Kd.R_lt (zR HO197)) k_ hn_)), Or.elim hk_ (fun hs_ => ((Kd.Rty (Kd.Rty (Kd.Rty (Kd.Rty (Kd.R_apart' (Kd.R_apart' (HO178.out) (Kd.Rtd HO181.out) (by decide)) (Kd.Rtd HO197.out) (by decide)) BK166.out (by decide)) BK167.out (by decide)) BK192.out (by decide)) BK199.out (by decide)).1 k_ hs_.symm).1.1.1.2) (fun hn_ => (Kd.freshB (g := gb166) (o := .cells #[.int .i64 1099511627776, .int .i64 65535, .slice Ao54 y176.length co54] 27 (0, 0)) (zK BK166) k_ hn_)), Or.elim hk_ (fun hs_ => ((Kd.Rty (Kd.Rty (Kd.Rty (Kd.Rty (Kd.R_apart' (Kd.R_apart' (HO178.out) (Kd.Rtd HO181.out) (by decide)) (Kd.Rtd HO197.out) (by decide)) BK166.out (by decide)) BK167.out (by decide)) BK192.out (by decide)) BK199.out (by decide)).1 k_ hs_.symm).1.1.2) (fun hn_ => (Kd.freshB (g := gb167) (o := .cells #[.int .i64 1099511627776, .int .i64 65535, .slice Ao57 y179.length co57] 30 (0, 0)) (zK BK167) k_ hn_)), Or.elim hk_ (fun hs_ => ((Kd.Rty (Kd.Rty (Kd.Rty (Kd.Rty (Kd.R_apart' (Kd.R_apart' (HO178.out) (Kd.Rtd HO181.out) (by decide)) (Kd.Rtd HO197.out) (by decide)) BK166.out (by decide)) BK167.out (by decide)) BK192.out (by decide)) BK199.out (by decide)).1 k_ hs_.symm).1.2) (fun hn_ => (Kd.freshB (g := gb192) (o := .cells #[.int .i64 t186, .int .i64 t187, .slice Ao71 t188.length co71] 27 (0, 0)) (zK BK192) k_ hn_)), Or.elim hk_ (fun hs_ => ((Kd.Rty (Kd.Rty (Kd.Rty (Kd.Rty (Kd.R_apart' (Kd.R_apart' (HO178.out) (Kd.Rtd HO181.out) (by decide)) (Kd.Rtd HO197.out) (by decide)) BK166.out (by decide)) BK167.out (by decide)) BK192.out (by decide)) BK199.out (by decide)).1 k_ hs_.symm).2) (fun hn_ => (Kd.freshB (g := gb199) (o := .cells #[.int .i64 t193, .int .i64 t194, .slice Ao78 t195.length co78] 30 (0, 0)) (zK BK199) k_ hn_))⟩)) (bsz zB)); replace HO178 := zRb HO178 hb; replace HO181 := zRb HO181 hb; replace HO190 := zRb HO190 hb; replace HO197 := zRb HO197 hb; replace BK166 := zKb BK166 hb; replace BK167 := zKb BK167 hb; replace BK192 := zKb BK192 hb; replace BK199 := zKb BK199 hb; replace HB := zBs hb
       obtain ⟨Ao83, co83, eo83⟩ := Kd.V_slice HO204.out
       (first | subst eo83 | (injection eo83 with f1_ f2_ f3_; have f4_ := f1_.symm; have f5_ := f3_.symm; clear f1_ f2_ f3_; subst f4_; subst f5_))
       obtain ⟨Ao84, co84, eo84⟩ := Kd.V_slice HO209.out
       (first | subst eo84 | (injection eo84 with f1_ f2_ f3_; have f4_ := f1_.symm; have f5_ := f3_.symm; clear f1_ f2_ f3_; subst f4_; subst f5_))
       refine hK.out _ _ (zJ3 (zC3 BK192) (zJ3 (zC3 BK166) (zJ3 (zC3 BK199) (zC3 BK167)))) (fun hHeld => ?_)
       clear hK K
       refine norm_ (a' := ?_) ?_ ?_
       rotate_left
       ·
        show Act.put _ (some 94) _ = _
        simp only [Act.put, z1, z2, z3, i64_w, i32_w]
        rfl
       refine one_ (i := 19) (N := some 95) (zm 30 1048575) rfl rfl (one_of HT_.out (by kernel_rfl)) (by decide) (fun K hK => ?_)
       refine goes_ Tryz.func27 (by kernel_rfl) rfl #[.agg #[.int .i64 t200, .int .i64 t201, .slice Ao83 t202.length co83], .agg #[.int .i64 t205, .int .i64 t206, .slice Ao84 t207.length co84]] (by rfl) rfl rfl (by (try simp only [List.map_toArray, List.map_cons, List.map_nil]); try rfl) ?_
       with_reducible refine (aL_sameFile.calls k1 t200 t201 _ _ t202 t205 t206 _ _ t207 true _ ?side1 ?side2 ?side3 ?side4 A41.out).mono ?_
       (case side1 => repeat (first | exact (Kd.V_reads' HO204.out).2.2 | (with_reducible refine Kd.C_alloc ?_ _) | (with_reducible refine Kd.C_drewN ?_ _) | (with_reducible refine Kd.C_drew ?_)))
       (case side2 => exact (Kd.V_reads' HO204.out).2.1)
       (case side3 => repeat (first | exact (Kd.V_reads' HO209.out).2.2 | (with_reducible refine Kd.C_alloc ?_ _) | (with_reducible refine Kd.C_drewN ?_ _) | (with_reducible refine Kd.C_drew ?_)))
       (case side4 => exact (Kd.V_reads' HO209.out).2.1)
       rintro e w85 ⟨rfl, hb⟩
       refine ⟨_, rfl, ?_⟩
       replace HO178 := zRb HO178 hb; replace HO181 := zRb HO181 hb; replace HO190 := zRb HO190 hb; replace HO197 := zRb HO197 hb; replace HO204 := Zs.mk (Kd.V_below (zV HO204) hb); replace HO209 := Zs.mk (Kd.V_below (zV HO209) hb); replace BK166 := zKb BK166 hb; replace BK167 := zKb BK167 hb; replace BK192 := zKb BK192 hb; replace BK199 := zKb BK199 hb; replace HB := zBs hb
       refine hK.out _ _ (zJ3 (zC3 BK192) (zJ3 (zC3 BK166) (zJ3 (zC3 BK199) (zC3 BK167)))) (fun hHeld => ?_)
       clear hK K
       refine norm_ (a' := ?_) ?_ ?_
       rotate_left
       ·
        show Act.put _ (some 95) _ = _
        simp only [Act.put, z1, z2, z3, i64_w, i32_w]
        rfl
       refine zp 20 96 (zm 30 2097151) ?_
       refine zp 21 97 (zm 30 4194303) ?_
       refine zp 22 98 (zm 30 8388607) ?_
       refine take_ (i := 23) (N := some 99) (v := ?_) (a' := ?_) (zm 30 16777215) rfl rfl (take_ofW HT_.out HW_.out (by kernel_rfl)) (fun _ _ _ h => h) (Or.inl ⟨by rfl, ?_⟩) hHeld ?_ ?_
       rotate_left
       ·
        rintro w' ⟨s0, s1, s2, s3, s4, s5, s6, s7, s8, s9, s10, s11⟩
        go_simp
        with_reducible rfl
       rotate_left
       · simp only [Act.put, z1, z2, z3, i64_w, i32_w]; rfl
       refine take_ (i := 25) (N := some 101) (v := ?_) (a' := ?_) (zm 30 50331647) rfl rfl (take_ofW HT_.out HW_.out (by kernel_rfl)) (fun _ _ _ h => h) (Or.inl ⟨by rfl, ?_⟩) hHeld ?_ ?_
       rotate_left
       ·
        rintro w' ⟨s0, s1, s2, s3, s4, s5, s6, s7, s8, s9, s10, s11⟩
        go_simp
        with_reducible rfl
       rotate_left
       · simp only [Act.put, z1, z2, z3, i64_w, i32_w]; rfl
       refine one_ (i := 24) (N := some 100) (zm 30 67108863) rfl rfl (one_of HT_.out (by kernel_rfl)) (by decide) (fun K hK => ?_)
       refine goes_ Tryz.func16 (by kernel_rfl) rfl #[.agg #[.int .i64 t193, .int .i64 t194, .slice Ao78 t195.length co78]] (by rfl) rfl rfl (by (try simp only [List.map_toArray, List.map_cons, List.map_nil]); try rfl) ?_
       with_reducible refine (aL_old.calls k1 t193 t194 _ _ t195 t211 t212 t213 _ ?side1 ?side2 A43.out).mono ?_
       (case side1 => exact zQ HO197)
       (case side2 => exact (Kd.R_reads' HO197.out).2.1)
       rintro e w86 ⟨v214, rfl, ho0, hb⟩
       refine ⟨_, rfl, ?_⟩
       replace HO178 := zRb HO178 hb; replace HO181 := zRb HO181 hb; replace HO190 := zRb HO190 hb; replace HO197 := zRb HO197 hb; replace HO204 := Zs.mk (Kd.V_elder' (zV HO204) (Kd.R_base ho0) hb); replace HO209 := Zs.mk (Kd.V_elder' (zV HO209) (Kd.R_base ho0) hb); have HO215 := Zs.mk (Kd.R_lower ho0 (bsz zB)); replace BK166 := zKb BK166 hb; replace BK167 := zKb BK167 hb; replace BK192 := zKb BK192 hb; replace BK199 := zKb BK199 hb; replace HB := zBs hb
       refine hK.out _ _ (zJ3 (zC3 BK192) (zJ3 (zC3 BK166) (zJ3 (zC3 BK199) (zC3 BK167)))) (fun hHeld => ?_)
       clear hK K
       refine norm_ (a' := ?_) ?_ ?_
       rotate_left
       ·
        show Act.put _ (some 100) _ = _
        simp only [Act.put, z1, z2, z3, i64_w, i32_w]
        rfl
       refine one_ (i := 26) (N := some 102) (zm 30 134217727) rfl rfl (one_of HT_.out (by kernel_rfl)) (by decide) (fun K hK => ?_)
       refine goes_ Tryz.func16 (by kernel_rfl) rfl #[.agg #[.int .i64 1099511627776, .int .i64 65535, .slice Ao57 y179.length co57]] (by rfl) rfl rfl (by (try simp only [List.map_toArray, List.map_cons, List.map_nil]); try rfl) ?_
       with_reducible refine (aL_old.calls k1 1099511627776 65535 _ _ y179 t216 t217 t218 _ ?side1 ?side2 A44.out).mono ?_
       (case side1 => exact zQ HO181)
       (case side2 => exact (Kd.R_reads' HO181.out).2.1)
       rintro e w87 ⟨v219, rfl, ho0, hb⟩
       refine ⟨_, rfl, ?_⟩
       replace HO178 := zRb HO178 hb; replace HO181 := zRb HO181 hb; replace HO190 := zRb HO190 hb; replace HO197 := zRb HO197 hb; replace HO204 := Zs.mk (Kd.V_elder' (zV HO204) (Kd.R_base ho0) hb); replace HO209 := Zs.mk (Kd.V_elder' (zV HO209) (Kd.R_base ho0) hb); have HO220 := Zs.mk (Kd.R_lower (Kd.R_new' ho0 (Kd.R_lt (zR HO215))) (bsz zB)); replace HO215 := Zs.mk (Kd.R_elder' (zR HO215) (Kd.R_base ho0) hb); replace BK166 := zKb BK166 hb; replace BK167 := zKb BK167 hb; replace BK192 := zKb BK192 hb; replace BK199 := zKb BK199 hb; replace HB := zBs hb
       obtain ⟨Ao88, co88, eo88⟩ := Kd.R_slice HO215.out
       (first | subst eo88 | (injection eo88 with f1_ f2_ f3_; have f4_ := f1_.symm; have f5_ := f3_.symm; clear f1_ f2_ f3_; subst f4_; subst f5_))
       obtain ⟨Ao89, co89, eo89⟩ := Kd.R_slice HO220.out
       (first | subst eo89 | (injection eo89 with f1_ f2_ f3_; have f4_ := f1_.symm; have f5_ := f3_.symm; clear f1_ f2_ f3_; subst f4_; subst f5_))
       refine hK.out _ _ (zJ3 (zC3 BK192) (zJ3 (zC3 BK166) (zJ3 (zC3 BK199) (zC3 BK167)))) (fun hHeld => ?_)
       clear hK K
       refine norm_ (a' := ?_) ?_ ?_
       rotate_left
       ·
        show Act.put _ (some 102) _ = _
        simp only [Act.put, z1, z2, z3, i64_w, i32_w]
        rfl
       refine one_ (i := 27) (N := some 103) (zm 30 268435455) rfl rfl (one_of HT_.out (by kernel_rfl)) (by decide) (fun K hK => ?_)
       refine goes_ Tryz.func30 (by kernel_rfl) rfl #[.agg #[.int .i64 t211, .int .i64 t212, .slice Ao88 t213.length co88], .agg #[.int .i64 t216, .int .i64 t217, .slice Ao89 t218.length co89]] (by rfl) rfl rfl (by (try simp only [List.map_toArray, List.map_cons, List.map_nil]); try rfl) ?_
       with_reducible refine (aL_sameAnswer.calls k1 t211 t212 _ _ t213 t216 t217 _ _ t218 true _ ?side1 ?side2 ?side3 ?side4 A45.out).mono ?_
       (case side1 => exact zQ HO215)
       (case side2 => exact (Kd.R_reads' HO215.out).2.1)
       (case side3 => exact zQ HO220)
       (case side4 => exact (Kd.R_reads' HO220.out).2.1)
       rintro e w90 ⟨rfl, hb⟩
       refine ⟨_, rfl, ?_⟩
       replace HO178 := zRb HO178 hb; replace HO181 := zRb HO181 hb; replace HO190 := zRb HO190 hb; replace HO197 := zRb HO197 hb; replace HO204 := Zs.mk (Kd.V_below (zV HO204) hb); replace HO209 := Zs.mk (Kd.V_below (zV HO209) hb); replace HO215 := zRb HO215 hb; replace HO220 := zRb HO220 hb; replace BK166 := zKb BK166 hb; replace BK167 := zKb BK167 hb; replace BK192 := zKb BK192 hb; replace BK199 := zKb BK199 hb; replace HB := zBs hb
       refine hK.out _ _ (zJ3 (zC3 BK192) (zJ3 (zC3 BK166) (zJ3 (zC3 BK199) (zC3 BK167)))) (fun hHeld => ?_)
       clear hK K
       refine norm_ (a' := ?_) ?_ ?_
       rotate_left
       ·
        show Act.put _ (some 103) _ = _
        simp only [Act.put, z1, z2, z3, i64_w, i32_w]
        rfl
       refine zp 28 104 (zm 30 536870911) ?_
       refine zp 29 105 (zm 30 1073741823) ?_
       refine done_ (done_of HT_.out (by kernel_rfl)) ?_
       try go_wp2_with (first | ((with_reducible refine gkd (N := 106) rfl ?_); refine Kd.R_make (Kd.int .u8) _ 5 rfl (N := 106) rfl 53 _ _ rfl 1048576 rfl rfl Tryz.underlying53 (.int .u8 0) 1 info5 rfl (by decide) (by omega) 0 (ok := fun _ => True) (okp := fun _ => True) rfl (fun _ hk => hk) trivial (by omega) (by omega) (Below.refl _ _) (Nat.le_refl _) ?_; intro v223 w91 ho92 hb hg_ hnew_; clear hg_ hnew_; (first | rw [← Ny222.out] at ho92 | (simp only [Int.reduceToNat] at ho92; rw [← Ny222.out] at ho92)); replace HO178 := zRb HO178 hb; replace HO181 := zRb HO181 hb; replace HO190 := zRb HO190 hb; replace HO197 := zRb HO197 hb; replace HO204 := Zs.mk (Kd.V_elder' (zV HO204) (Kd.R_base ho92) hb); replace HO209 := Zs.mk (Kd.V_elder' (zV HO209) (Kd.R_base ho92) hb); replace HO215 := zRb HO215 hb; replace HO220 := zRb HO220 hb; have HO224 := Zs.mk (Kd.R_lower ho92 (bsz zB)); replace BK166 := zKb BK166 hb; replace BK167 := zKb BK167 hb; replace BK192 := zKb BK192 hb; replace BK199 := zKb BK199 hb; replace HB := zBs hb; clear hb ho92; have hcv93 := own_string (P := Tryz.prog) Tryz.underlying53 Tryz.underlying5 Tryz.underlying9 (Kd.own_of_R HO224.out)) | ((with_reducible refine gkc (f := 24) rfl ?_); refine zgo (some 110) Tryz.func24 #[.string (strOfNums y222)] ?_; (with_reducible refine (bank_Read.calls k1 (strOfNums y222) t225 t226 t227 t230 _ ?side1 A48.out).mono ?_); (case side1 => exact GG.below HG.out zB); rintro e w94 ⟨v228, rfl, ho0, hb⟩; refine ⟨_, rfl, ?_⟩; replace HO181 := zRb HO181 hb; replace HO197 := zRb HO197 hb; replace HO204 := Zs.mk (Kd.V_elder' (zV HO204) (Kd.R_base ho0) hb); replace HO209 := Zs.mk (Kd.V_elder' (zV HO209) (Kd.R_base ho0) hb); replace HO215 := zRb HO215 hb; replace HO220 := zRb HO220 hb; replace HO224 := zRb HO224 hb; have HO229 := Zs.mk (Kd.R_lower (Kd.R_new' (Kd.R_new' ho0 (Kd.R_lt (zR HO178))) (Kd.R_lt (zR HO190))) (bsz zB)); replace HO178 := Zs.mk (Kd.R_elder' (zR HO178) (Kd.R_base ho0) hb); replace HO190 := Zs.mk (Kd.R_elder' (zR HO190) (Kd.R_base ho0) hb); replace BK166 := zKb BK166 hb; replace BK167 := zKb BK167 hb; replace BK192 := zKb BK192 hb; replace BK199 := zKb BK199 hb; replace HB := zBs hb) | ((with_reducible refine gkd (N := 13) rfl ?_); refine bxe ?hg (N := 13) ?hd (cs := #[.int .i64 0, .int .i64 0, .slice none 0 0]) (t := 27) ?hr ?_; (case hd => rfl); (case hg => rfl); (case hr => first | (go_simp; done) | (go_simp; rfl)); intro gb231 hg w95 hbox hb; replace HO178 := zRb HO178 hb; replace HO181 := zRb HO181 hb; replace HO190 := zRb HO190 hb; replace HO197 := zRb HO197 hb; replace HO204 := Zs.mk (Kd.V_below (Kd.V_elderB (zV HO204) gb231 (Nat.le_of_eq hg.symm)) hb); replace HO209 := Zs.mk (Kd.V_below (Kd.V_elderB (zV HO209) gb231 (Nat.le_of_eq hg.symm)) hb); replace HO215 := zRb HO215 hb; replace HO220 := zRb HO220 hb; replace HO224 := zRb HO224 hb; replace HO229 := zRb HO229 hb; have BK231 := Zs.mk (hbox); have GW231 := zG (w := w) hg; have GE231 := zG (w := w) hg; replace HB := zBs hb; have NB166_231 := zN hg (zK BK166); have NB231_166 := zM hg (zK BK166); replace BK166 := zKb BK166 hb; have NB167_231 := zN hg (zK BK167); have NB231_167 := zM hg (zK BK167); replace BK167 := zKb BK167 hb; have NB192_231 := zN hg (zK BK192); have NB231_192 := zM hg (zK BK192); replace BK192 := zKb BK192 hb; have NB199_231 := zN hg (zK BK199); have NB231_199 := zM hg (zK BK199); replace BK199 := zKb BK199 hb; clear hb hbox hg; have hnb96 := NB231_166.out; have hnc96 := NB166_231.out; have hnb97 := NB231_167.out; have hnc97 := NB167_231.out; have hnb98 := NB231_192.out; have hnc98 := NB192_231.out; have hnb99 := NB231_199.out; have hnc99 := NB199_231.out; obtain ⟨hcz100_0, hcz100_1, hcz100_2⟩ := zC3 BK231; obtain ⟨hfz100_0, hfz100_1, hfz100_2⟩ := zZ3 BK231; obtain ⟨Ao101, co101, eo101⟩ := Kd.R_slice HO229.out; subst eo101) | ((with_reducible refine gate_builtin (b := .append) (xs := #[.tmp 114, .tmp 115]) rfl ?_); at_builtin; refine Kd.R_append (Kd.int .u8) (w0 := w) w.heap.size rfl (.tmp 114) (.tmp 115) 53 5 (.int .u8 0) 1 rfl Tryz.underlying53 info5 rfl (by decide) (by omega) v223 y222 0 [.int .u8 0] (fun _ => True) (fun _ => False) rfl (by first | (go_simp; done) | (go_simp; rfl)) ?aP (fun _ hk => hk.elim) ?aF ?aO ?aB ?aS ?aL ?_; (case aP => exact rfl); (case aB => exact zB); (case aF => exact (fun _ _ => trivial)); (case aO => exact (by (with_reducible repeat (first | apply Kd.Ral | apply Kd.Rdn | apply Kd.Rdw)); exact Kd.R_mono (Kd.R_far (p := ⟨gb231, 2, none⟩) (Kd.R_far (p := ⟨gb231, 1, none⟩) (Kd.R_far (p := ⟨gb231, 0, none⟩) (Kd.Rty HO224.out BK231.out (by decide)) (fun _ hk => hk.2) (.int .i64 t225)) (fun _ hk => hk.2) (.int .i64 t226)) (fun _ hk => hk.2) (.slice Ao101 t227.length co101)) (fun _ hk => trivial))); (case aS => exact (bsz zB)); (case aL => have := LMc49.out; omega); intro v233 w102 ho hb hg hat; rw [← Ny232.out] at ho; replace HO178 := Zs.mk (Kd.R_over' (by (with_reducible repeat (first | apply Kd.Ral | apply Kd.Rdn | apply Kd.Rdw)); exact (Kd.R_mono (Kd.R_far (p := ⟨gb231, 2, none⟩) (Kd.R_far (p := ⟨gb231, 1, none⟩) (Kd.R_far (p := ⟨gb231, 0, none⟩) (Kd.Rty HO178.out BK231.out (by decide)) (fun _ hk => hk.2) (.int .i64 t225)) (fun _ hk => hk.2) (.int .i64 t226)) (fun _ hk => hk.2) (.slice Ao101 t227.length co101)) (fun _ h_ => h_.1))) (Kd.Rtd (by (with_reducible repeat (first | apply Kd.Ral | apply Kd.Rdn | apply Kd.Rdw)); exact (Kd.R_mono (Kd.R_far (p := ⟨gb231, 2, none⟩) (Kd.R_far (p := ⟨gb231, 1, none⟩) (Kd.R_far (p := ⟨gb231, 0, none⟩) (Kd.Rty HO224.out BK231.out (by decide)) (fun _ hk => hk.2) (.int .i64 t225)) (fun _ hk => hk.2) (.int .i64 t226)) (fun _ hk => hk.2) (.slice Ao101 t227.length co101)) (fun _ h_ => h_.1)))) (by decide) hg); replace HO181 := Zs.mk (Kd.R_over' (by (with_reducible repeat (first | apply Kd.Ral | apply Kd.Rdn | apply Kd.Rdw)); exact (Kd.R_mono (Kd.R_far (p := ⟨gb231, 2, none⟩) (Kd.R_far (p := ⟨gb231, 1, none⟩) (Kd.R_far (p := ⟨gb231, 0, none⟩) (Kd.Rty HO181.out BK231.out (by decide)) (fun _ hk => hk.2) (.int .i64 t225)) (fun _ hk => hk.2) (.int .i64 t226)) (fun _ hk => hk.2) (.slice Ao101 t227.length co101)) (fun _ h_ => h_.1))) (Kd.Rtd (by (with_reducible repeat (first | apply Kd.Ral | apply Kd.Rdn | apply Kd.Rdw)); exact (Kd.R_mono (Kd.R_far (p := ⟨gb231, 2, none⟩) (Kd.R_far (p := ⟨gb231, 1, none⟩) (Kd.R_far (p := ⟨gb231, 0, none⟩) (Kd.Rty HO224.out BK231.out (by decide)) (fun _ hk => hk.2) (.int .i64 t225)) (fun _ hk => hk.2) (.int .i64 t226)) (fun _ hk => hk.2) (.slice Ao101 t227.length co101)) (fun _ h_ => h_.1)))) (by decide) hg); replace BK166 := Zs.mk (blk_grown (g := gb166) (o := .cells #[.int .i64 1099511627776, .int .i64 65535, .slice Ao54 y176.length co54] 27 (0, 0)) (zF BK166) hg (Kd.R_ne HO224.out BK166.out (by decide))); replace BK167 := Zs.mk (blk_grown (g := gb167) (o := .cells #[.int .i64 1099511627776, .int .i64 65535, .slice Ao57 y179.length co57] 30 (0, 0)) (zF BK167) hg (Kd.R_ne HO224.out BK167.out (by decide))); replace HO190 := Zs.mk (Kd.R_over' (by (with_reducible repeat (first | apply Kd.Ral | apply Kd.Rdn | apply Kd.Rdw)); exact (Kd.R_mono (Kd.R_far (p := ⟨gb231, 2, none⟩) (Kd.R_far (p := ⟨gb231, 1, none⟩) (Kd.R_far (p := ⟨gb231, 0, none⟩) (Kd.Rty HO190.out BK231.out (by decide)) (fun _ hk => hk.2) (.int .i64 t225)) (fun _ hk => hk.2) (.int .i64 t226)) (fun _ hk => hk.2) (.slice Ao101 t227.length co101)) (fun _ h_ => h_.1))) (Kd.Rtd (by (with_reducible repeat (first | apply Kd.Ral | apply Kd.Rdn | apply Kd.Rdw)); exact (Kd.R_mono (Kd.R_far (p := ⟨gb231, 2, none⟩) (Kd.R_far (p := ⟨gb231, 1, none⟩) (Kd.R_far (p := ⟨gb231, 0, none⟩) (Kd.Rty HO224.out BK231.out (by decide)) (fun _ hk => hk.2) (.int .i64 t225)) (fun _ hk => hk.2) (.int .i64 t226)) (fun _ hk => hk.2) (.slice Ao101 t227.length co101)) (fun _ h_ => h_.1)))) (by decide) hg); replace BK192 := Zs.mk (blk_grown (g := gb192) (o := .cells #[.int .i64 t186, .int .i64 t187, .slice Ao71 t188.length co71] 27 (0, 0)) (zF BK192) hg (Kd.R_ne HO224.out BK192.out (by decide))); replace HO197 := Zs.mk (Kd.R_over' (by (with_reducible repeat (first | apply Kd.Ral | apply Kd.Rdn | apply Kd.Rdw)); exact (Kd.R_mono (Kd.R_far (p := ⟨gb231, 2, none⟩) (Kd.R_far (p := ⟨gb231, 1, none⟩) (Kd.R_far (p := ⟨gb231, 0, none⟩) (Kd.Rty HO197.out BK231.out (by decide)) (fun _ hk => hk.2) (.int .i64 t225)) (fun _ hk => hk.2) (.int .i64 t226)) (fun _ hk => hk.2) (.slice Ao101 t227.length co101)) (fun _ h_ => h_.1))) (Kd.Rtd (by (with_reducible repeat (first | apply Kd.Ral | apply Kd.Rdn | apply Kd.Rdw)); exact (Kd.R_mono (Kd.R_far (p := ⟨gb231, 2, none⟩) (Kd.R_far (p := ⟨gb231, 1, none⟩) (Kd.R_far (p := ⟨gb231, 0, none⟩) (Kd.Rty HO224.out BK231.out (by decide)) (fun _ hk => hk.2) (.int .i64 t225)) (fun _ hk => hk.2) (.int .i64 t226)) (fun _ hk => hk.2) (.slice Ao101 t227.length co101)) (fun _ h_ => h_.1)))) (by decide) hg); replace BK199 := Zs.mk (blk_grown (g := gb199) (o := .cells #[.int .i64 t193, .int .i64 t194, .slice Ao78 t195.length co78] 30 (0, 0)) (zF BK199) hg (Kd.R_ne HO224.out BK199.out (by decide))); replace HO204 := Zs.mk (Kd.V_afterv (ok := (fun k_ => some k_ ≠ (.slice Ao54 y176.length co54 : Value).ownBlock ∧ some k_ ≠ (.slice Ao57 y179.length co57 : Value).ownBlock ∧ some k_ ≠ (.slice Ao78 t195.length co78 : Value).ownBlock ∧ some k_ ≠ (.slice Ao88 t213.length co88 : Value).ownBlock ∧ some k_ ≠ (.slice Ao89 t218.length co89 : Value).ownBlock ∧ some k_ ≠ (.slice Ao101 t227.length co101 : Value).ownBlock ∧ k_ ≠ gb166 ∧ k_ ≠ gb167 ∧ k_ ≠ gb192 ∧ k_ ≠ gb199 ∧ k_ ≠ gb231)) (by (with_reducible repeat (first | apply Kd.V_alloc | apply Kd.V_drewN | apply Kd.V_drew)); exact Kd.V_mono (Kd.V_far (p := ⟨gb231, 2, none⟩) (Kd.V_far (p := ⟨gb231, 1, none⟩) (Kd.V_far (p := ⟨gb231, 0, none⟩) (Kd.V_mono HO204.out (fun k_ hk => (⟨hk, hk.2⟩ : _ ∧ k_ ≠ gb231))) (fun _ hk => hk.2) (.int .i64 t225)) (fun _ hk => hk.2) (.int .i64 t226)) (fun _ hk => hk.2) (.slice Ao101 t227.length co101)) (fun _ hk => ⟨⟨hk.1.1.1.1.1.1.1, ⟨hk.1.1.1.1.1.1.2.1, ⟨hk.1.1.1.1.1.1.2.2.1, ⟨hk.1.1.1.1.1.2, ⟨hk.1.1.1.1.2, ⟨hk.1.1.2, ⟨hk.1.1.1.1.1.1.2.2.2.1, ⟨hk.1.1.1.1.1.1.2.2.2.2.1, ⟨hk.1.1.1.1.1.1.2.2.2.2.2.1, ⟨hk.1.1.1.1.1.1.2.2.2.2.2.2, hk.1.2⟩⟩⟩⟩⟩⟩⟩⟩⟩⟩, hk.1.1.1.2⟩)) hg hat); replace HO209 := Zs.mk (Kd.V_afterv (ok := (fun k_ => some k_ ≠ (.slice Ao57 y179.length co57 : Value).ownBlock ∧ some k_ ≠ (.slice Ao71 t188.length co71 : Value).ownBlock ∧ some k_ ≠ (.slice Ao78 t195.length co78 : Value).ownBlock ∧ some k_ ≠ (.slice Ao88 t213.length co88 : Value).ownBlock ∧ some k_ ≠ (.slice Ao89 t218.length co89 : Value).ownBlock ∧ some k_ ≠ (.slice Ao101 t227.length co101 : Value).ownBlock ∧ k_ ≠ gb166 ∧ k_ ≠ gb167 ∧ k_ ≠ gb192 ∧ k_ ≠ gb199 ∧ k_ ≠ gb231)) (by (with_reducible repeat (first | apply Kd.V_alloc | apply Kd.V_drewN | apply Kd.V_drew)); exact Kd.V_mono (Kd.V_far (p := ⟨gb231, 2, none⟩) (Kd.V_far (p := ⟨gb231, 1, none⟩) (Kd.V_far (p := ⟨gb231, 0, none⟩) (Kd.V_mono HO209.out (fun k_ hk => (⟨hk, hk.2⟩ : _ ∧ k_ ≠ gb231))) (fun _ hk => hk.2) (.int .i64 t225)) (fun _ hk => hk.2) (.int .i64 t226)) (fun _ hk => hk.2) (.slice Ao101 t227.length co101)) (fun _ hk => ⟨⟨hk.1.1.1.1.1.1.1, ⟨hk.1.1.1.1.1.1.2.1, ⟨hk.1.1.1.1.1.1.2.2.1, ⟨hk.1.1.1.1.1.2, ⟨hk.1.1.1.1.2, ⟨hk.1.1.2, ⟨hk.1.1.1.1.1.1.2.2.2.1, ⟨hk.1.1.1.1.1.1.2.2.2.2.1, ⟨hk.1.1.1.1.1.1.2.2.2.2.2.1, ⟨hk.1.1.1.1.1.1.2.2.2.2.2.2, hk.1.2⟩⟩⟩⟩⟩⟩⟩⟩⟩⟩, hk.1.1.1.2⟩)) hg hat); replace HO215 := Zs.mk (Kd.R_over' (by (with_reducible repeat (first | apply Kd.Ral | apply Kd.Rdn | apply Kd.Rdw)); exact (Kd.R_mono (Kd.R_far (p := ⟨gb231, 2, none⟩) (Kd.R_far (p := ⟨gb231, 1, none⟩) (Kd.R_far (p := ⟨gb231, 0, none⟩) (Kd.Rty HO215.out BK231.out (by decide)) (fun _ hk => hk.2) (.int .i64 t225)) (fun _ hk => hk.2) (.int .i64 t226)) (fun _ hk => hk.2) (.slice Ao101 t227.length co101)) (fun _ h_ => h_.1))) (Kd.Rtd (by (with_reducible repeat (first | apply Kd.Ral | apply Kd.Rdn | apply Kd.Rdw)); exact (Kd.R_mono (Kd.R_far (p := ⟨gb231, 2, none⟩) (Kd.R_far (p := ⟨gb231, 1, none⟩) (Kd.R_far (p := ⟨gb231, 0, none⟩) (Kd.Rty HO224.out BK231.out (by decide)) (fun _ hk => hk.2) (.int .i64 t225)) (fun _ hk => hk.2) (.int .i64 t226)) (fun _ hk => hk.2) (.slice Ao101 t227.length co101)) (fun _ h_ => h_.1)))) (by decide) hg); replace HO220 := Zs.mk (Kd.R_over' (by (with_reducible repeat (first | apply Kd.Ral | apply Kd.Rdn | apply Kd.Rdw)); exact (Kd.R_mono (Kd.R_far (p := ⟨gb231, 2, none⟩) (Kd.R_far (p := ⟨gb231, 1, none⟩) (Kd.R_far (p := ⟨gb231, 0, none⟩) (Kd.Rty HO220.out BK231.out (by decide)) (fun _ hk => hk.2) (.int .i64 t225)) (fun _ hk => hk.2) (.int .i64 t226)) (fun _ hk => hk.2) (.slice Ao101 t227.length co101)) (fun _ h_ => h_.1))) (Kd.Rtd (by (with_reducible repeat (first | apply Kd.Ral | apply Kd.Rdn | apply Kd.Rdw)); exact (Kd.R_mono (Kd.R_far (p := ⟨gb231, 2, none⟩) (Kd.R_far (p := ⟨gb231, 1, none⟩) (Kd.R_far (p := ⟨gb231, 0, none⟩) (Kd.Rty HO224.out BK231.out (by decide)) (fun _ hk => hk.2) (.int .i64 t225)) (fun _ hk => hk.2) (.int .i64 t226)) (fun _ hk => hk.2) (.slice Ao101 t227.length co101)) (fun _ h_ => h_.1)))) (by decide) hg); replace HO229 := Zs.mk (Kd.R_over' (by (with_reducible repeat (first | apply Kd.Ral | apply Kd.Rdn | apply Kd.Rdw)); exact (Kd.R_mono (Kd.R_far (p := ⟨gb231, 2, none⟩) (Kd.R_far (p := ⟨gb231, 1, none⟩) (Kd.R_far (p := ⟨gb231, 0, none⟩) (Kd.Rty HO229.out BK231.out (by decide)) (fun _ hk => hk.2) (.int .i64 t225)) (fun _ hk => hk.2) (.int .i64 t226)) (fun _ hk => hk.2) (.slice Ao101 t227.length co101)) (fun _ h_ => h_.1))) (Kd.Rtd (by (with_reducible repeat (first | apply Kd.Ral | apply Kd.Rdn | apply Kd.Rdw)); exact (Kd.R_mono (Kd.R_far (p := ⟨gb231, 2, none⟩) (Kd.R_far (p := ⟨gb231, 1, none⟩) (Kd.R_far (p := ⟨gb231, 0, none⟩) (Kd.Rty HO224.out BK231.out (by decide)) (fun _ hk => hk.2) (.int .i64 t225)) (fun _ hk => hk.2) (.int .i64 t226)) (fun _ hk => hk.2) (.slice Ao101 t227.length co101)) (fun _ h_ => h_.1)))) (by decide) hg); replace BK231 := Zs.mk (blk_grown (g := gb231) (o := .cells #[.int .i64 t225, .int .i64 t226, .slice Ao101 t227.length co101] 27 (0, 0)) (zY BK231) hg (Kd.R_ne HO224.out BK231.out (by decide))); replace HB := Zs.mk (hb); have HO234 := Zs.mk (ho); clear HO224; clear ho hb hg hat; have hcv103 := own_string (P := Tryz.prog) Tryz.underlying53 Tryz.underlying5 Tryz.underlying9 (Kd.own_of_R HO234.out)) | ((with_reducible refine gkc (f := 24) rfl ?_); refine zgo (some 118) Tryz.func24 #[.string (strOfNums y232)] ?_; (with_reducible refine (bank_Read.calls k1 (strOfNums y232) t235 t236 t237 t240 _ ?side1 A50.out).mono ?_); (case side1 => exact GG.below HG.out zB); rintro e w104 ⟨v238, rfl, ho0, hb⟩; refine ⟨_, rfl, ?_⟩; replace HO181 := zRb HO181 hb; replace HO197 := zRb HO197 hb; replace HO204 := Zs.mk (Kd.V_elder' (zV HO204) (Kd.R_base ho0) hb); replace HO209 := Zs.mk (Kd.V_elder' (zV HO209) (Kd.R_base ho0) hb); replace HO215 := zRb HO215 hb; replace HO220 := zRb HO220 hb; replace HO234 := zRb HO234 hb; have HO239 := Zs.mk (Kd.R_lower (Kd.R_new' (Kd.R_new' (Kd.R_new' ho0 (Kd.R_lt (zR HO178))) (Kd.R_lt (zR HO190))) (Kd.R_lt (zR HO229))) (bsz zB)); replace HO178 := Zs.mk (Kd.R_elder' (zR HO178) (Kd.R_base ho0) hb); replace HO190 := Zs.mk (Kd.R_elder' (zR HO190) (Kd.R_base ho0) hb); replace HO229 := Zs.mk (Kd.R_elder' (zR HO229) (Kd.R_base ho0) hb); replace BK166 := zKb BK166 hb; replace BK167 := zKb BK167 hb; replace BK192 := zKb BK192 hb; replace BK199 := zKb BK199 hb; replace BK231 := zKb BK231 hb; replace HB := zBs hb) | ((with_reducible refine gkd (N := 15) rfl ?_); refine bxe ?hg (N := 15) ?hd (cs := #[.int .i64 0, .int .i64 0, .slice none 0 0]) (t := 27) ?hr ?_; (case hd => rfl); (case hg => rfl); (case hr => first | (go_simp; done) | (go_simp; rfl)); intro gb241 hg w105 hbox hb; replace HO178 := zRb HO178 hb; replace HO181 := zRb HO181 hb; replace HO190 := zRb HO190 hb; replace HO197 := zRb HO197 hb; replace HO204 := Zs.mk (Kd.V_below (Kd.V_elderB (zV HO204) gb241 (Nat.le_of_eq hg.symm)) hb); replace HO209 := Zs.mk (Kd.V_below (Kd.V_elderB (zV HO209) gb241 (Nat.le_of_eq hg.symm)) hb); replace HO215 := zRb HO215 hb; replace HO220 := zRb HO220 hb; replace HO229 := zRb HO229 hb; replace HO234 := zRb HO234 hb; replace HO239 := zRb HO239 hb; have BK241 := Zs.mk (hbox); have GW241 := zG (w := w) hg; have GE241 := zG (w := w) hg; replace HB := zBs hb; have NB166_241 := zN hg (zK BK166); have NB241_166 := zM hg (zK BK166); replace BK166 := zKb BK166 hb; have NB167_241 := zN hg (zK BK167); have NB241_167 := zM hg (zK BK167); replace BK167 := zKb BK167 hb; have NB192_241 := zN hg (zK BK192); have NB241_192 := zM hg (zK BK192); replace BK192 := zKb BK192 hb; have NB199_241 := zN hg (zK BK199); have NB241_199 := zM hg (zK BK199); replace BK199 := zKb BK199 hb; have NB231_241 := zN hg (zK BK231); have NB241_231 := zM hg (zK BK231); replace BK231 := zKb BK231 hb; clear hb hbox hg; have hnb106 := NB241_166.out; have hnc106 := NB166_241.out; have hnb107 := NB241_167.out; have hnc107 := NB167_241.out; have hnb108 := NB241_192.out; have hnc108 := NB192_241.out; have hnb109 := NB241_199.out; have hnc109 := NB199_241.out; have hnb110 := NB241_231.out; have hnc110 := NB231_241.out; obtain ⟨hcz111_0, hcz111_1, hcz111_2⟩ := zC3 BK241; obtain ⟨hfz111_0, hfz111_1, hfz111_2⟩ := zZ3 BK241; obtain ⟨Ao112, co112, eo112⟩ := Kd.R_slice HO239.out; subst eo112))
       go_ret
       exact ⟨zE, zB⟩
      ·
       replace c46 := Bool.eq_false_iff.mpr c46; subst c46
       rw [if_neg (show ¬ (false = true) by decide)] at H
       obtain rfl := Option.some.inj H; have hnb113 := NB166_167.out; have hnc113 := NB167_166.out; obtain ⟨hcz114_0, hcz114_1, hcz114_2⟩ := zC3 BK166; obtain ⟨hfz114_0, hfz114_1, hfz114_2⟩ := zZ3 BK166; obtain ⟨Ao115, co115, eo115⟩ := Kd.R_slice HO_167002.out; subst eo115
       go_upto_region 10 with (first | ((with_reducible refine gkc (f := 22) rfl ?_); refine zgo (some 43) Tryz.func22 #[.agg #[.int .i64 1099511627776, .int .i64 65535, .slice Ao115 x167002_1.length co115]] ?_; (with_reducible refine (bank_Valid.calls k1 1099511627776 65535 _ _ x167002_1 false _ ?side1 ?side2 A18.out).mono ?_); (case side1 => exact zQ HO_167002); (case side2 => exact (Kd.R_reads' HO_167002.out).2.1); rintro e w116 ⟨rfl, hb⟩; refine ⟨_, rfl, ?_⟩; replace HO_167002 := zRb HO_167002 hb; replace HO_168002 := zRb HO_168002 hb; replace BK166 := zKb BK166 hb; replace BK167 := zKb BK167 hb; replace HB := zBs hb; obtain ⟨hcz117_0, hcz117_1, hcz117_2⟩ := zC3 BK167; obtain ⟨hfz117_0, hfz117_1, hfz117_2⟩ := zZ3 BK167; obtain ⟨Ao118, co118, eo118⟩ := Kd.R_slice HO_168002.out; subst eo118) | (go_at_call 28; (with_reducible refine (bank_Right.calls k1 1099511627776 65535 _ _ x168002_1 false _ ?side1 ?side2 A20.out).mono ?_); (case side1 => exact zQ HO_168002); (case side2 => exact (Kd.R_reads' HO_168002.out).2.1); rintro e w119 ⟨rfl, hb⟩; replace HO_167002 := zRb HO_167002 hb; replace HO_168002 := zRb HO_168002 hb; replace BK166 := zKb BK166 hb; replace BK167 := zKb BK167 hb; replace HB := zBs hb; obtain ⟨hcz120_0, hcz120_1, hcz120_2⟩ := zC3 BK166; obtain ⟨hfz120_0, hfz120_1, hfz120_2⟩ := zZ3 BK166; have q121 : (1000 : Int) ≤ ((x167002_1.length : Int) : Int) := zD; obtain ⟨i0121, hi0121, _, hsz121, _⟩ := info_parts info47; have hcut121 := cut_to (P := Tryz.prog) 25 47 .i64 Tryz.underlying25 hi0121 Ao115 x167002_1.length co115 1000 (by omega) q121 (Kd.R_reads' HO_167002.out).2.1; have hr121 := Kd.R_take (m := (1000 : Int).toNat) HO_167002.out (by omega); have hy121 : y176.length = (1000 : Int).toNat := (by rw [Ny176.out, List.length_take]; omega); rw [← Ny176.out] at hr121; rw [← hy121] at hr121 hcut121; clear hy121 hi0121 hsz121 HO_167002; have HO178 := Zs.mk hr121; clear hr121; replace q121 := eq_true q121; obtain ⟨hcz122_0, hcz122_1, hcz122_2⟩ := zC3 BK167; obtain ⟨hfz122_0, hfz122_1, hfz122_2⟩ := zZ3 BK167; have q123 : (1000 : Int) ≤ ((x168002_1.length : Int) : Int) := zD; obtain ⟨i0123, hi0123, _, hsz123, _⟩ := info_parts info49; have hcut123 := cut_to (P := Tryz.prog) 28 49 .i64 Tryz.underlying28 hi0123 Ao118 x168002_1.length co118 1000 (by omega) q123 (Kd.R_reads' HO_168002.out).2.1; have hr123 := Kd.R_take (m := (1000 : Int).toNat) HO_168002.out (by omega); have hy123 : y179.length = (1000 : Int).toNat := (by rw [Ny179.out, List.length_take]; omega); rw [← Ny179.out] at hr123; rw [← hy123] at hr123 hcut123; clear hy123 hi0123 hsz123 HO_168002; have HO181 := Zs.mk hr123; clear hr123; replace q123 := eq_true q123))
       go_region
       try go_wp2_with (first | ((with_reducible refine gkc (f := 23) rfl ?_); refine zgo (some 58) Tryz.func23 #[.agg #[.int .i64 1099511627776, .int .i64 65535, .slice Ao115 y176.length co115]] ?_; (with_reducible refine (bank_Write.calls k1 1099511627776 65535 _ _ y176 t182 t183 _ ?side1 ?side2 ?side3 A31.out).mono ?_); (case side1 => refine (Kd.R_reads' (e := 47) (base := w.heap.size) (ok := fun k_ => True) (n := y176.length) (c := co115) ?_).2.2; exact (by (with_reducible repeat (first | apply Kd.Ral | apply Kd.Rdn | apply Kd.Rdw)); exact (Kd.R_mono (Kd.R_mono (Kd.R_far (p := ⟨gb167, 2, none⟩) (Kd.R_far (p := ⟨gb166, 2, none⟩) (Kd.Rty (Kd.Rty HO178.out BK166.out (by decide)) BK167.out (by decide)) (fun _ hk => hk.1.2) (.slice Ao115 y176.length co115)) (fun _ hk => hk.2) (.slice Ao118 y179.length co118)) (fun _ h_ => h_.1)) (fun _ h_ => h_.1)))); (case side2 => exact (Kd.R_reads' HO178.out).2.1); (case side3 => exact GG.below HG.out zB); rintro e w124 ⟨rfl, hb⟩; refine ⟨_, rfl, ?_⟩; replace HO178 := Zs.mk (Kd.R_below (by (with_reducible repeat (first | apply Kd.Ral | apply Kd.Rdn | apply Kd.Rdw)); exact (Kd.R_mono (Kd.R_mono (Kd.R_far (p := ⟨gb167, 2, none⟩) (Kd.R_far (p := ⟨gb166, 2, none⟩) (Kd.Rty (Kd.Rty HO178.out BK166.out (by decide)) BK167.out (by decide)) (fun _ hk => hk.1.2) (.slice Ao115 y176.length co115)) (fun _ hk => hk.2) (.slice Ao118 y179.length co118)) (fun _ h_ => h_.1)) (fun _ h_ => h_.1))) hb); replace HO181 := Zs.mk (Kd.R_below (by (with_reducible repeat (first | apply Kd.Ral | apply Kd.Rdn | apply Kd.Rdw)); exact (Kd.R_mono (Kd.R_mono (Kd.R_far (p := ⟨gb167, 2, none⟩) (Kd.R_far (p := ⟨gb166, 2, none⟩) (Kd.Rty (Kd.Rty HO181.out BK166.out (by decide)) BK167.out (by decide)) (fun _ hk => hk.1.2) (.slice Ao115 y176.length co115)) (fun _ hk => hk.2) (.slice Ao118 y179.length co118)) (fun _ h_ => h_.1)) (fun _ h_ => h_.1))) hb); replace BK166 := Zs.mk (blk_below (g := gb166) (o := .cells #[.int .i64 1099511627776, .int .i64 65535, .slice Ao115 y176.length co115] 27 (0, 0)) (zY BK166) hb); replace BK167 := Zs.mk (blk_below (g := gb167) (o := .cells #[.int .i64 1099511627776, .int .i64 65535, .slice Ao118 y179.length co118] 30 (0, 0)) (zY BK167) hb); replace HB := zBs hb; obtain ⟨hcz125_0, hcz125_1, hcz125_2⟩ := zC3 BK167; obtain ⟨hfz125_0, hfz125_1, hfz125_2⟩ := zZ3 BK167) | ((with_reducible refine gkc (f := 29) rfl ?_); refine zgo (some 63) Tryz.func29 #[.agg #[.int .i64 1099511627776, .int .i64 65535, .slice Ao118 y179.length co118]] ?_; (with_reducible refine (bank_WriteAnswer.calls k1 1099511627776 65535 _ _ y179 t184 t185 _ ?side1 ?side2 ?side3 A32.out).mono ?_); (case side1 => exact zQ HO181); (case side2 => exact (Kd.R_reads' HO181.out).2.1); (case side3 => exact GG.below HG.out zB); rintro e w126 ⟨rfl, hb⟩; refine ⟨_, rfl, ?_⟩; replace HO178 := zRb HO178 hb; replace HO181 := zRb HO181 hb; replace BK166 := zKb BK166 hb; replace BK167 := zKb BK167 hb; replace HB := zBs hb) | ((with_reducible refine gkc (f := 24) rfl ?_); refine zgo (some 68) Tryz.func24 #[.string t182] ?_; (with_reducible refine (bank_Read.calls k1 t182 t186 t187 t188 t191 _ ?side1 A33.out).mono ?_); (case side1 => exact GG.below HG.out zB); rintro e w127 ⟨v189, rfl, ho0, hb⟩; refine ⟨_, rfl, ?_⟩; replace HO181 := zRb HO181 hb; have HO190 := Zs.mk (Kd.R_lower (Kd.R_new' ho0 (Kd.R_lt (zR HO178))) (bsz zB)); replace HO178 := Zs.mk (Kd.R_elder' (zR HO178) (Kd.R_base ho0) hb); replace BK166 := zKb BK166 hb; replace BK167 := zKb BK167 hb; replace HB := zBs hb) | ((with_reducible refine gkd (N := 8) rfl ?_); refine bxe ?hg (N := 8) ?hd (cs := #[.int .i64 0, .int .i64 0, .slice none 0 0]) (t := 27) ?hr ?_; (case hd => rfl); (case hg => rfl); (case hr => first | (go_simp; done) | (go_simp; rfl)); intro gb192 hg w128 hbox hb; replace HO178 := zRb HO178 hb; replace HO181 := zRb HO181 hb; replace HO190 := zRb HO190 hb; have BK192 := Zs.mk (hbox); have GW192 := zG (w := w) hg; have GE192 := zG (w := w) hg; replace HB := zBs hb; have NB166_192 := zN hg (zK BK166); have NB192_166 := zM hg (zK BK166); replace BK166 := zKb BK166 hb; have NB167_192 := zN hg (zK BK167); have NB192_167 := zM hg (zK BK167); replace BK167 := zKb BK167 hb; clear hb hbox hg; have hnb129 := NB192_166.out; have hnc129 := NB166_192.out; have hnb130 := NB192_167.out; have hnc130 := NB167_192.out; obtain ⟨hcz131_0, hcz131_1, hcz131_2⟩ := zC3 BK192; obtain ⟨hfz131_0, hfz131_1, hfz131_2⟩ := zZ3 BK192; obtain ⟨Ao132, co132, eo132⟩ := Kd.R_slice HO190.out; subst eo132) | ((with_reducible refine gkc (f := 25) rfl ?_); refine zgo (some 73) Tryz.func25 #[.string t184] ?_; (with_reducible refine (bank_ReadAnswer.calls k1 t184 t193 t194 t195 t198 _ ?side1 A34.out).mono ?_); (case side1 => exact GG.below HG.out zB); rintro e w133 ⟨v196, rfl, ho0, hb⟩; refine ⟨_, rfl, ?_⟩; replace HO178 := Zs.mk (Kd.R_below (by (with_reducible repeat (first | apply Kd.Ral | apply Kd.Rdn | apply Kd.Rdw)); exact (Kd.R_mono (Kd.R_far (p := ⟨gb192, 2, none⟩) (Kd.R_far (p := ⟨gb192, 1, none⟩) (Kd.R_far (p := ⟨gb192, 0, none⟩) (Kd.Rty HO178.out BK192.out (by decide)) (fun _ hk => hk.2) (.int .i64 t186)) (fun _ hk => hk.2) (.int .i64 t187)) (fun _ hk => hk.2) (.slice Ao132 t188.length co132)) (fun _ h_ => h_.1))) hb); replace HO190 := Zs.mk (Kd.R_below (by (with_reducible repeat (first | apply Kd.Ral | apply Kd.Rdn | apply Kd.Rdw)); exact (Kd.R_mono (Kd.R_far (p := ⟨gb192, 2, none⟩) (Kd.R_far (p := ⟨gb192, 1, none⟩) (Kd.R_far (p := ⟨gb192, 0, none⟩) (Kd.Rty HO190.out BK192.out (by decide)) (fun _ hk => hk.2) (.int .i64 t186)) (fun _ hk => hk.2) (.int .i64 t187)) (fun _ hk => hk.2) (.slice Ao132 t188.length co132)) (fun _ h_ => h_.1))) hb); have HO197 := Zs.mk (Kd.R_lower (Kd.R_new' ho0 (Kd.R_lt (by (with_reducible repeat (first | apply Kd.Ral | apply Kd.Rdn | apply Kd.Rdw)); exact (Kd.R_mono (Kd.R_far (p := ⟨gb192, 2, none⟩) (Kd.R_far (p := ⟨gb192, 1, none⟩) (Kd.R_far (p := ⟨gb192, 0, none⟩) (Kd.Rty HO181.out BK192.out (by decide)) (fun _ hk => hk.2) (.int .i64 t186)) (fun _ hk => hk.2) (.int .i64 t187)) (fun _ hk => hk.2) (.slice Ao132 t188.length co132)) (fun _ h_ => h_.1))))) (bsz zB)); replace HO181 := Zs.mk (Kd.R_elder' (by (with_reducible repeat (first | apply Kd.Ral | apply Kd.Rdn | apply Kd.Rdw)); exact (Kd.R_mono (Kd.R_far (p := ⟨gb192, 2, none⟩) (Kd.R_far (p := ⟨gb192, 1, none⟩) (Kd.R_far (p := ⟨gb192, 0, none⟩) (Kd.Rty HO181.out BK192.out (by decide)) (fun _ hk => hk.2) (.int .i64 t186)) (fun _ hk => hk.2) (.int .i64 t187)) (fun _ hk => hk.2) (.slice Ao132 t188.length co132)) (fun _ h_ => h_.1))) (Kd.R_base ho0) hb); replace BK166 := Zs.mk (blk_below (zF BK166) hb); replace BK167 := Zs.mk (blk_below (zF BK167) hb); replace BK192 := Zs.mk (blk_below (g := gb192) (o := .cells #[.int .i64 t186, .int .i64 t187, .slice Ao132 t188.length co132] 27 (0, 0)) (zY BK192) hb); replace HB := zBs hb) | ((with_reducible refine gkd (N := 10) rfl ?_); refine bxe ?hg (N := 10) ?hd (cs := #[.int .i64 0, .int .i64 0, .slice none 0 0]) (t := 30) ?hr ?_; (case hd => rfl); (case hg => rfl); (case hr => first | (go_simp; done) | (go_simp; rfl)); intro gb199 hg w134 hbox hb; replace HO178 := zRb HO178 hb; replace HO181 := zRb HO181 hb; replace HO190 := zRb HO190 hb; replace HO197 := zRb HO197 hb; have BK199 := Zs.mk (hbox); have GW199 := zG (w := w) hg; have GE199 := zG (w := w) hg; replace HB := zBs hb; have NB166_199 := zN hg (zK BK166); have NB199_166 := zM hg (zK BK166); replace BK166 := zKb BK166 hb; have NB167_199 := zN hg (zK BK167); have NB199_167 := zM hg (zK BK167); replace BK167 := zKb BK167 hb; have NB192_199 := zN hg (zK BK192); have NB199_192 := zM hg (zK BK192); replace BK192 := zKb BK192 hb; clear hb hbox hg; have hnb135 := NB199_166.out; have hnc135 := NB166_199.out; have hnb136 := NB199_167.out; have hnc136 := NB167_199.out; have hnb137 := NB199_192.out; have hnc137 := NB192_199.out; obtain ⟨hcz138_0, hcz138_1, hcz138_2⟩ := zC3 BK199; obtain ⟨hfz138_0, hfz138_1, hfz138_2⟩ := zZ3 BK199; obtain ⟨Ao139, co139, eo139⟩ := Kd.R_slice HO197.out; subst eo139))
       have n0_ : Zs (Kd.R k47 47 (((w134.setCell ⟨gb199, 0, none⟩ (.int .i64 t193)).setCell ⟨gb199, 1, none⟩ (.int .i64 t194)).setCell ⟨gb199, 2, none⟩ (.slice Ao139 t195.length co139)) w.heap.size (fun k_ => some k_ ≠ (.slice Ao132 t188.length co132 : Value).ownBlock) (.slice Ao115 y176.length co115) y176) := ⟨by (with_reducible repeat (first | apply Kd.Ral | apply Kd.Rdn | apply Kd.Rdw)); exact Kd.R_mono (Kd.R_far (p := ⟨gb199, 2, none⟩) (Kd.R_far (p := ⟨gb199, 1, none⟩) (Kd.R_far (p := ⟨gb199, 0, none⟩) (Kd.Rty HO178.out BK199.out (by decide)) (fun _ hk => hk.2) (.int .i64 t193)) (fun _ hk => hk.2) (.int .i64 t194)) (fun _ hk => hk.2) (.slice Ao139 t195.length co139)) (fun _ hk => hk.1.2)⟩
       have n1_ : Zs (Kd.R k49 49 (((w134.setCell ⟨gb199, 0, none⟩ (.int .i64 t193)).setCell ⟨gb199, 1, none⟩ (.int .i64 t194)).setCell ⟨gb199, 2, none⟩ (.slice Ao139 t195.length co139)) w.heap.size (fun k_ => some k_ ≠ (.slice Ao139 t195.length co139 : Value).ownBlock) (.slice Ao118 y179.length co118) y179) := ⟨by (with_reducible repeat (first | apply Kd.Ral | apply Kd.Rdn | apply Kd.Rdw)); exact Kd.R_mono (Kd.R_far (p := ⟨gb199, 2, none⟩) (Kd.R_far (p := ⟨gb199, 1, none⟩) (Kd.R_far (p := ⟨gb199, 0, none⟩) (Kd.Rty HO181.out BK199.out (by decide)) (fun _ hk => hk.2) (.int .i64 t193)) (fun _ hk => hk.2) (.int .i64 t194)) (fun _ hk => hk.2) (.slice Ao139 t195.length co139)) (fun _ hk => hk.1.2)⟩
       have n2_ : Zs (Kd.R k47 47 (((w134.setCell ⟨gb199, 0, none⟩ (.int .i64 t193)).setCell ⟨gb199, 1, none⟩ (.int .i64 t194)).setCell ⟨gb199, 2, none⟩ (.slice Ao139 t195.length co139)) w.heap.size (fun k_ => some k_ ≠ (.slice Ao115 y176.length co115 : Value).ownBlock) (.slice Ao132 t188.length co132) t188) := ⟨by (with_reducible repeat (first | apply Kd.Ral | apply Kd.Rdn | apply Kd.Rdw)); exact Kd.R_mono (Kd.R_far (p := ⟨gb199, 2, none⟩) (Kd.R_far (p := ⟨gb199, 1, none⟩) (Kd.R_far (p := ⟨gb199, 0, none⟩) (Kd.Rty HO190.out BK199.out (by decide)) (fun _ hk => hk.2) (.int .i64 t193)) (fun _ hk => hk.2) (.int .i64 t194)) (fun _ hk => hk.2) (.slice Ao139 t195.length co139)) (fun _ hk => hk.1.2)⟩
       have n3_ : Zs (Kd.R k49 49 (((w134.setCell ⟨gb199, 0, none⟩ (.int .i64 t193)).setCell ⟨gb199, 1, none⟩ (.int .i64 t194)).setCell ⟨gb199, 2, none⟩ (.slice Ao139 t195.length co139)) w.heap.size (fun k_ => some k_ ≠ (.slice Ao118 y179.length co118 : Value).ownBlock) (.slice Ao139 t195.length co139) t195) := ⟨by (with_reducible repeat (first | apply Kd.Ral | apply Kd.Rdn | apply Kd.Rdw)); exact Kd.R_mono (Kd.R_far (p := ⟨gb199, 2, none⟩) (Kd.R_far (p := ⟨gb199, 1, none⟩) (Kd.R_far (p := ⟨gb199, 0, none⟩) (Kd.Rty HO197.out BK199.out (by decide)) (fun _ hk => hk.2) (.int .i64 t193)) (fun _ hk => hk.2) (.int .i64 t194)) (fun _ hk => hk.2) (.slice Ao139 t195.length co139)) (fun _ hk => hk.1.2)⟩
       have n4_ : Zs ((((w134.setCell ⟨gb199, 0, none⟩ (.int .i64 t193)).setCell ⟨gb199, 1, none⟩ (.int .i64 t194)).setCell ⟨gb199, 2, none⟩ (.slice Ao139 t195.length co139)).heap[gb166]? = some (.cells #[.int .i64 1099511627776, .int .i64 65535, .slice Ao115 y176.length co115] 27 (0, 0))) := ⟨zF BK166⟩
       have n5_ : Zs ((((w134.setCell ⟨gb199, 0, none⟩ (.int .i64 t193)).setCell ⟨gb199, 1, none⟩ (.int .i64 t194)).setCell ⟨gb199, 2, none⟩ (.slice Ao139 t195.length co139)).heap[gb167]? = some (.cells #[.int .i64 1099511627776, .int .i64 65535, .slice Ao118 y179.length co118] 30 (0, 0))) := ⟨zF BK167⟩
       have n6_ : Zs ((((w134.setCell ⟨gb199, 0, none⟩ (.int .i64 t193)).setCell ⟨gb199, 1, none⟩ (.int .i64 t194)).setCell ⟨gb199, 2, none⟩ (.slice Ao139 t195.length co139)).heap[gb192]? = some (.cells #[.int .i64 t186, .int .i64 t187, .slice Ao132 t188.length co132] 27 (0, 0))) := ⟨zF BK192⟩
       have n7_ : Zs ((((w134.setCell ⟨gb199, 0, none⟩ (.int .i64 t193)).setCell ⟨gb199, 1, none⟩ (.int .i64 t194)).setCell ⟨gb199, 2, none⟩ (.slice Ao139 t195.length co139)).heap[gb199]? = some (.cells #[.int .i64 t193, .int .i64 t194, .slice Ao139 t195.length co139] 30 (0, 0))) := ⟨zY BK199⟩
       have n8_ : Zs (Below w.heap.size w (((w134.setCell ⟨gb199, 0, none⟩ (.int .i64 t193)).setCell ⟨gb199, 1, none⟩ (.int .i64 t194)).setCell ⟨gb199, 2, none⟩ (.slice Ao139 t195.length co139))) := ⟨zB⟩
       (try clear HO178)
       (try clear HO181)
       (try clear HO190)
       (try clear HO197)
       (try clear BK166)
       (try clear BK167)
       (try clear BK192)
       (try clear BK199)
       (try clear HB)
       generalize (((w134.setCell ⟨gb199, 0, none⟩ (.int .i64 t193)).setCell ⟨gb199, 1, none⟩ (.int .i64 t194)).setCell ⟨gb199, 2, none⟩ (.slice Ao139 t195.length co139)) = w140 at n0_ n1_ n2_ n3_ n4_ n5_ n6_ n7_ n8_ ⊢
       have HO178 := n0_; have HO181 := n1_; have HO190 := n2_; have HO197 := n3_; have BK166 := n4_; have BK167 := n5_; have BK192 := n6_; have BK199 := n7_; have HB := n8_; clear n0_ n1_ n2_ n3_ n4_ n5_ n6_ n7_ n8_; replace HO178 := Zs.mk (Kd.Rdw HO178.out); replace HO181 := Zs.mk (Kd.Rdw HO181.out); replace HO190 := Zs.mk (Kd.Rdw HO190.out); replace HO197 := Zs.mk (Kd.Rdw HO197.out); replace BK166 := Zs.mk (blk_drew BK166.out); replace BK167 := Zs.mk (blk_drew BK167.out); replace BK192 := Zs.mk (blk_drew BK192.out); replace BK199 := Zs.mk (blk_drew BK199.out); replace HB := Zs.mk (below_drew1 HB.out); 
       refine start_ (n := 30) (S := fun w' => w'.cell? ⟨gb192, 0, none⟩ = some (.int .i64 t186) ∧ w'.cell? ⟨gb192, 1, none⟩ = some (.int .i64 t187) ∧ w'.cell? ⟨gb192, 2, none⟩ = some (.slice Ao132 t188.length co132) ∧ w'.cell? ⟨gb166, 0, none⟩ = some (.int .i64 1099511627776) ∧ w'.cell? ⟨gb166, 1, none⟩ = some (.int .i64 65535) ∧ w'.cell? ⟨gb166, 2, none⟩ = some (.slice Ao115 y176.length co115) ∧ w'.cell? ⟨gb199, 0, none⟩ = some (.int .i64 t193) ∧ w'.cell? ⟨gb199, 1, none⟩ = some (.int .i64 t194) ∧ w'.cell? ⟨gb199, 2, none⟩ = some (.slice Ao139 t195.length co139) ∧ w'.cell? ⟨gb167, 0, none⟩ = some (.int .i64 1099511627776) ∧ w'.cell? ⟨gb167, 1, none⟩ = some (.int .i64 65535) ∧ w'.cell? ⟨gb167, 2, none⟩ = some (.slice Ao118 y179.length co118)) (ds := []) (zo 30) (by kernel_rfl) rfl rfl (zJ3 (zC3 BK192) (zJ3 (zC3 BK166) (zJ3 (zC3 BK199) (zC3 BK167)))) (fun hHeld => ?_); refine with_tabW aL_limits.tab15 aL_limits.bits15 (fun HT_ HW_ => ?_)
       generalize w140.drew = w141 at HO178 HO181 HO190 HO197 BK166 BK167 BK192 BK199 HB hHeld ⊢
       refine zp 0 76 (zm 30 1) ?_
       refine zp 1 77 (zm 30 3) ?_
       refine zp 2 78 (zm 30 7) ?_
       refine zp 3 79 (zm 30 15) ?_
       refine zp 4 80 (zm 30 31) ?_
       refine zp 5 81 (zm 30 63) ?_
       refine zp 6 82 (zm 30 127) ?_
       refine zp 7 83 (zm 30 255) ?_
       refine zp 8 84 (zm 30 511) ?_
       refine zp 9 85 (zm 30 1023) ?_
       refine zp 10 86 (zm 30 2047) ?_
       refine zp 11 87 (zm 30 4095) ?_
       refine zp 12 88 (zm 30 8191) ?_
       refine zp 13 89 (zm 30 16383) ?_
       refine zp 14 90 (zm 30 32767) ?_
       refine take_ (i := 15) (N := some 91) (v := ?_) (a' := ?_) (zm 30 65535) rfl rfl (take_ofW HT_.out HW_.out (by kernel_rfl)) (fun _ _ _ h => h) (Or.inl ⟨by rfl, ?_⟩) hHeld ?_ ?_
       rotate_left
       ·
        rintro w' ⟨s0, s1, s2, s3, s4, s5, s6, s7, s8, s9, s10, s11⟩
        go_simp
        with_reducible rfl
       rotate_left
       · simp only [Act.put, z1, z2, z3, i64_w, i32_w]; rfl
       refine take_ (i := 17) (N := some 93) (v := ?_) (a' := ?_) (zm 30 196607) rfl rfl (take_ofW HT_.out HW_.out (by kernel_rfl)) (fun _ _ _ h => h) (Or.inl ⟨by rfl, ?_⟩) hHeld ?_ ?_
       rotate_left
       ·
        rintro w' ⟨s0, s1, s2, s3, s4, s5, s6, s7, s8, s9, s10, s11⟩
        go_simp
        with_reducible rfl
       rotate_left
       · simp only [Act.put, z1, z2, z3, i64_w, i32_w]; rfl
       refine one_ (i := 16) (N := some 92) (zm 30 262143) rfl rfl (one_of HT_.out (by kernel_rfl)) (by decide) (fun K hK => ?_)
       refine goes_ Tryz.func14 (by kernel_rfl) rfl #[.agg #[.int .i64 t186, .int .i64 t187, .slice Ao132 t188.length co132]] (by rfl) rfl rfl (by (try simp only [List.map_toArray, List.map_cons, List.map_nil]); try rfl) ?_
       with_reducible refine (aL_plain.calls t186 t187 (fun k_ => some k_ = (.slice Ao132 t188.length co132 : Value).ownBlock) _ _ t188 t200 t201 t202 _ ?side1 A39.out).mono ?_
       (case side1 => exact Kd.R_V (Kd.R_tight rfl (Kd.Rty (Kd.Rty (Kd.Rty (Kd.Rty (Kd.R_apart' (Kd.R_apart' (HO190.out) (Kd.Rtd HO181.out) (by decide)) (Kd.Rtd HO197.out) (by decide)) BK166.out (by decide)) BK167.out (by decide)) BK192.out (by decide)) BK199.out (by decide))))
       rintro e w142 ⟨v203, rfl, ho0, hb⟩
       refine ⟨_, rfl, ?_⟩
       have HO204 := Zs.mk (Kd.V_lower (Kd.V_mono (ok' := fun k_ => some k_ ≠ (.slice Ao115 y176.length co115 : Value).ownBlock ∧ some k_ ≠ (.slice Ao118 y179.length co118 : Value).ownBlock ∧ some k_ ≠ (.slice Ao139 t195.length co139 : Value).ownBlock ∧ k_ ≠ gb166 ∧ k_ ≠ gb167 ∧ k_ ≠ gb192 ∧ k_ ≠ gb199) ho0 (fun k_ hk_ => ⟨Or.elim hk_ (fun hs_ => ((Kd.Rty (Kd.Rty (Kd.Rty (Kd.Rty (Kd.R_apart' (Kd.R_apart' (HO190.out) (Kd.Rtd HO181.out) (by decide)) (Kd.Rtd HO197.out) (by decide)) BK166.out (by decide)) BK167.out (by decide)) BK192.out (by decide)) BK199.out (by decide)).1 k_ hs_.symm).1.1.1.1.1.1) (fun hn_ => (Kd.fresh' (Kd.R_lt (zR HO178)) k_ hn_)), Or.elim hk_ (fun hs_ => ((Kd.Rty (Kd.Rty (Kd.Rty (Kd.Rty (Kd.R_apart' (Kd.R_apart' (HO190.out) (Kd.Rtd HO181.out) (by decide)) (Kd.Rtd HO197.out) (by decide)) BK166.out (by decide)) BK167.out (by decide)) BK192.out (by decide)) BK199.out (by decide)).1 k_ hs_.symm).1.1.1.1.1.2) (fun hn_ => (Kd.fresh' (Kd.R_lt (zR HO181)) k_ hn_)), Or.elim hk_ (fun hs_ => ((Kd.Rty (Kd.Rty (Kd.Rty (Kd.Rty (Kd.R_apart' (Kd.R_apart' (HO190.out) (Kd.Rtd HO181.out) (by decide)) (Kd.Rtd HO197.out) (by decide)) BK166.out (by decide)) BK167.out (by decide)) BK192.out (by decide)) BK199.out (by decide)).1 k_ hs_.symm).1.1.1.1.2) (fun hn_ => (Kd.fresh' (Kd.R_lt (zR HO197)) k_ hn_)), Or.elim hk_ (fun hs_ => ((Kd.Rty (Kd.Rty (Kd.Rty (Kd.Rty (Kd.R_apart' (Kd.R_apart' (HO190.out) (Kd.Rtd HO181.out) (by decide)) (Kd.Rtd HO197.out) (by decide)) BK166.out (by decide)) BK167.out (by decide)) BK192.out (by decide)) BK199.out (by decide)).1 k_ hs_.symm).1.1.1.2) (fun hn_ => (Kd.freshB (g := gb166) (o := .cells #[.int .i64 1099511627776, .int .i64 65535, .slice Ao115 y176.length co115] 27 (0, 0)) (zK BK166) k_ hn_)), Or.elim hk_ (fun hs_ => ((Kd.Rty (Kd.Rty (Kd.Rty (Kd.Rty (Kd.R_apart' (Kd.R_apart' (HO190.out) (Kd.Rtd HO181.out) (by decide)) (Kd.Rtd HO197.out) (by decide)) BK166.out (by decide)) BK167.out (by decide)) BK192.out (by decide)) BK199.out (by decide)).1 k_ hs_.symm).1.1.2) (fun hn_ => (Kd.freshB (g := gb167) (o := .cells #[.int .i64 1099511627776, .int .i64 65535, .slice Ao118 y179.length co118] 30 (0, 0)) (zK BK167) k_ hn_)), Or.elim hk_ (fun hs_ => ((Kd.Rty (Kd.Rty (Kd.Rty (Kd.Rty (Kd.R_apart' (Kd.R_apart' (HO190.out) (Kd.Rtd HO181.out) (by decide)) (Kd.Rtd HO197.out) (by decide)) BK166.out (by decide)) BK167.out (by decide)) BK192.out (by decide)) BK199.out (by decide)).1 k_ hs_.symm).1.2) (fun hn_ => (Kd.freshB (g := gb192) (o := .cells #[.int .i64 t186, .int .i64 t187, .slice Ao132 t188.length co132] 27 (0, 0)) (zK BK192) k_ hn_)), Or.elim hk_ (fun hs_ => ((Kd.Rty (Kd.Rty (Kd.Rty (Kd.Rty (Kd.R_apart' (Kd.R_apart' (HO190.out) (Kd.Rtd HO181.out) (by decide)) (Kd.Rtd HO197.out) (by decide)) BK166.out (by decide)) BK167.out (by decide)) BK192.out (by decide)) BK199.out (by decide)).1 k_ hs_.symm).2) (fun hn_ => (Kd.freshB (g := gb199) (o := .cells #[.int .i64 t193, .int .i64 t194, .slice Ao139 t195.length co139] 30 (0, 0)) (zK BK199) k_ hn_))⟩)) (bsz zB)); replace HO178 := zRb HO178 hb; replace HO181 := zRb HO181 hb; replace HO190 := zRb HO190 hb; replace HO197 := zRb HO197 hb; replace BK166 := zKb BK166 hb; replace BK167 := zKb BK167 hb; replace BK192 := zKb BK192 hb; replace BK199 := zKb BK199 hb; replace HB := zBs hb
       refine hK.out _ _ (zJ3 (zC3 BK192) (zJ3 (zC3 BK166) (zJ3 (zC3 BK199) (zC3 BK167)))) (fun hHeld => ?_)
       clear hK K
       refine norm_ (a' := ?_) ?_ ?_
       rotate_left
       ·
        show Act.put _ (some 92) _ = _
        simp only [Act.put, z1, z2, z3, i64_w, i32_w]
        rfl
       refine one_ (i := 18) (N := some 94) (zm 30 524287) rfl rfl (one_of HT_.out (by kernel_rfl)) (by decide) (fun K hK => ?_)
       refine goes_ Tryz.func14 (by kernel_rfl) rfl #[.agg #[.int .i64 1099511627776, .int .i64 65535, .slice Ao115 y176.length co115]] (by rfl) rfl rfl (by (try simp only [List.map_toArray, List.map_cons, List.map_nil]); try rfl) ?_
       with_reducible refine (aL_plain.calls 1099511627776 65535 (fun k_ => some k_ = (.slice Ao115 y176.length co115 : Value).ownBlock) _ _ y176 t205 t206 t207 _ ?side1 A40.out).mono ?_
       (case side1 => exact Kd.R_V (Kd.R_tight rfl (Kd.Rty (Kd.Rty (Kd.Rty (Kd.Rty (Kd.R_apart' (Kd.R_apart' (HO178.out) (Kd.Rtd HO181.out) (by decide)) (Kd.Rtd HO197.out) (by decide)) BK166.out (by decide)) BK167.out (by decide)) BK192.out (by decide)) BK199.out (by decide))))
       rintro e w143 ⟨v208, rfl, ho0, hb⟩
       refine ⟨_, rfl, ?_⟩
       replace HO204 := Zs.mk (Kd.V_below (zV HO204) hb); have HO209 := Zs.mk (Kd.V_lower (Kd.V_mono (ok' := fun k_ => some k_ ≠ (.slice Ao118 y179.length co118 : Value).ownBlock ∧ some k_ ≠ (.slice Ao132 t188.length co132 : Value).ownBlock ∧ some k_ ≠ (.slice Ao139 t195.length co139 : Value).ownBlock ∧ k_ ≠ gb166 ∧ k_ ≠ gb167 ∧ k_ ≠ gb192 ∧ k_ ≠ gb199) ho0 (fun k_ hk_ => ⟨Or.elim hk_ (fun hs_ => ((Kd.Rty (Kd.Rty (Kd.Rty (Kd.Rty (Kd.R_apart' (Kd.R_apart' (HO178.out) (Kd.Rtd HO181.out) (by decide)) (Kd.Rtd HO197.out) (by decide)) BK166.out (by decide)) BK167.out (by decide)) BK192.out (by decide)) BK199.out (by decide)).1 k_ hs_.symm).1.1.1.1.1.2) (fun hn_ => (Kd.fresh' (Kd.R_lt (zR HO181)) k_ hn_)), Or.elim hk_ (fun hs_ => ((Kd.Rty (Kd.Rty (Kd.Rty (Kd.Rty (Kd.R_apart' (Kd.R_apart' (HO178.out) (Kd.Rtd HO181.out) (by decide)) (Kd.Rtd HO197.out) (by decide)) BK166.out (by decide)) BK167.out (by decide)) BK192.out (by decide)) BK199.out (by decide)).1 k_ hs_.symm).1.1.1.1.1.1) (fun hn_ => (Kd.fresh' (Kd.R_lt (zR HO190)) k_ hn_)), Or.elim hk_ (fun hs_ => ((Kd.Rty (Kd.Rty (Kd.Rty (Kd.Rty (Kd.R_apart' (Kd.R_apart' (HO178.out) (Kd.Rtd HO181.out) (by decide)) (Kd.Rtd HO197.out) (by decide)) BK166.out (by decide)) BK167.out (by decide)) BK192.out (by decide)) BK199.out (by decide)).1 k_ hs_.symm).1.1.1.1.2) (fun hn_ => (Kd.fresh' (Kd.R_lt (zR HO197)) k_ hn_)), Or.elim hk_ (fun hs_ => ((Kd.Rty (Kd.Rty (Kd.Rty (Kd.Rty (Kd.R_apart' (Kd.R_apart' (HO178.out) (Kd.Rtd HO181.out) (by decide)) (Kd.Rtd HO197.out) (by decide)) BK166.out (by decide)) BK167.out (by decide)) BK192.out (by decide)) BK199.out (by decide)).1 k_ hs_.symm).1.1.1.2) (fun hn_ => (Kd.freshB (g := gb166) (o := .cells #[.int .i64 1099511627776, .int .i64 65535, .slice Ao115 y176.length co115] 27 (0, 0)) (zK BK166) k_ hn_)), Or.elim hk_ (fun hs_ => ((Kd.Rty (Kd.Rty (Kd.Rty (Kd.Rty (Kd.R_apart' (Kd.R_apart' (HO178.out) (Kd.Rtd HO181.out) (by decide)) (Kd.Rtd HO197.out) (by decide)) BK166.out (by decide)) BK167.out (by decide)) BK192.out (by decide)) BK199.out (by decide)).1 k_ hs_.symm).1.1.2) (fun hn_ => (Kd.freshB (g := gb167) (o := .cells #[.int .i64 1099511627776, .int .i64 65535, .slice Ao118 y179.length co118] 30 (0, 0)) (zK BK167) k_ hn_)), Or.elim hk_ (fun hs_ => ((Kd.Rty (Kd.Rty (Kd.Rty (Kd.Rty (Kd.R_apart' (Kd.R_apart' (HO178.out) (Kd.Rtd HO181.out) (by decide)) (Kd.Rtd HO197.out) (by decide)) BK166.out (by decide)) BK167.out (by decide)) BK192.out (by decide)) BK199.out (by decide)).1 k_ hs_.symm).1.2) (fun hn_ => (Kd.freshB (g := gb192) (o := .cells #[.int .i64 t186, .int .i64 t187, .slice Ao132 t188.length co132] 27 (0, 0)) (zK BK192) k_ hn_)), Or.elim hk_ (fun hs_ => ((Kd.Rty (Kd.Rty (Kd.Rty (Kd.Rty (Kd.R_apart' (Kd.R_apart' (HO178.out) (Kd.Rtd HO181.out) (by decide)) (Kd.Rtd HO197.out) (by decide)) BK166.out (by decide)) BK167.out (by decide)) BK192.out (by decide)) BK199.out (by decide)).1 k_ hs_.symm).2) (fun hn_ => (Kd.freshB (g := gb199) (o := .cells #[.int .i64 t193, .int .i64 t194, .slice Ao139 t195.length co139] 30 (0, 0)) (zK BK199) k_ hn_))⟩)) (bsz zB)); replace HO178 := zRb HO178 hb; replace HO181 := zRb HO181 hb; replace HO190 := zRb HO190 hb; replace HO197 := zRb HO197 hb; replace BK166 := zKb BK166 hb; replace BK167 := zKb BK167 hb; replace BK192 := zKb BK192 hb; replace BK199 := zKb BK199 hb; replace HB := zBs hb
       obtain ⟨Ao144, co144, eo144⟩ := Kd.V_slice HO204.out
       (first | subst eo144 | (injection eo144 with f1_ f2_ f3_; have f4_ := f1_.symm; have f5_ := f3_.symm; clear f1_ f2_ f3_; subst f4_; subst f5_))
       obtain ⟨Ao145, co145, eo145⟩ := Kd.V_slice HO209.out
       (first | subst eo145 | (injection eo145 with f1_ f2_ f3_; have f4_ := f1_.symm; have f5_ := f3_.symm; clear f1_ f2_ f3_; subst f4_; subst f5_))
       refine hK.out _ _ (zJ3 (zC3 BK192) (zJ3 (zC3 BK166) (zJ3 (zC3 BK199) (zC3 BK167)))) (fun hHeld => ?_)
       clear hK K
       refine norm_ (a' := ?_) ?_ ?_
       rotate_left
       ·
        show Act.put _ (some 94) _ = _
        simp only [Act.put, z1, z2, z3, i64_w, i32_w]
        rfl
       refine one_ (i := 19) (N := some 95) (zm 30 1048575) rfl rfl (one_of HT_.out (by kernel_rfl)) (by decide) (fun K hK => ?_)
       refine goes_ Tryz.func27 (by kernel_rfl) rfl #[.agg #[.int .i64 t200, .int .i64 t201, .slice Ao144 t202.length co144], .agg #[.int .i64 t205, .int .i64 t206, .slice Ao145 t207.length co145]] (by rfl) rfl rfl (by (try simp only [List.map_toArray, List.map_cons, List.map_nil]); try rfl) ?_
       with_reducible refine (aL_sameFile.calls k1 t200 t201 _ _ t202 t205 t206 _ _ t207 true _ ?side1 ?side2 ?side3 ?side4 A41.out).mono ?_
       (case side1 => repeat (first | exact (Kd.V_reads' HO204.out).2.2 | (with_reducible refine Kd.C_alloc ?_ _) | (with_reducible refine Kd.C_drewN ?_ _) | (with_reducible refine Kd.C_drew ?_)))
       (case side2 => exact (Kd.V_reads' HO204.out).2.1)
       (case side3 => repeat (first | exact (Kd.V_reads' HO209.out).2.2 | (with_reducible refine Kd.C_alloc ?_ _) | (with_reducible refine Kd.C_drewN ?_ _) | (with_reducible refine Kd.C_drew ?_)))
       (case side4 => exact (Kd.V_reads' HO209.out).2.1)
       rintro e w146 ⟨rfl, hb⟩
       refine ⟨_, rfl, ?_⟩
       replace HO178 := zRb HO178 hb; replace HO181 := zRb HO181 hb; replace HO190 := zRb HO190 hb; replace HO197 := zRb HO197 hb; replace HO204 := Zs.mk (Kd.V_below (zV HO204) hb); replace HO209 := Zs.mk (Kd.V_below (zV HO209) hb); replace BK166 := zKb BK166 hb; replace BK167 := zKb BK167 hb; replace BK192 := zKb BK192 hb; replace BK199 := zKb BK199 hb; replace HB := zBs hb
       refine hK.out _ _ (zJ3 (zC3 BK192) (zJ3 (zC3 BK166) (zJ3 (zC3 BK199) (zC3 BK167)))) (fun hHeld => ?_)
       clear hK K
       refine norm_ (a' := ?_) ?_ ?_
       rotate_left
       ·
        show Act.put _ (some 95) _ = _
        simp only [Act.put, z1, z2, z3, i64_w, i32_w]
        rfl
       refine zp 20 96 (zm 30 2097151) ?_
       refine zp 21 97 (zm 30 4194303) ?_
       refine zp 22 98 (zm 30 8388607) ?_
       refine take_ (i := 23) (N := some 99) (v := ?_) (a' := ?_) (zm 30 16777215) rfl rfl (take_ofW HT_.out HW_.out (by kernel_rfl)) (fun _ _ _ h => h) (Or.inl ⟨by rfl, ?_⟩) hHeld ?_ ?_
       rotate_left
       ·
        rintro w' ⟨s0, s1, s2, s3, s4, s5, s6, s7, s8, s9, s10, s11⟩
        go_simp
        with_reducible rfl
       rotate_left
       · simp only [Act.put, z1, z2, z3, i64_w, i32_w]; rfl
       refine take_ (i := 25) (N := some 101) (v := ?_) (a' := ?_) (zm 30 50331647) rfl rfl (take_ofW HT_.out HW_.out (by kernel_rfl)) (fun _ _ _ h => h) (Or.inl ⟨by rfl, ?_⟩) hHeld ?_ ?_
       rotate_left
       ·
        rintro w' ⟨s0, s1, s2, s3, s4, s5, s6, s7, s8, s9, s10, s11⟩
        go_simp
        with_reducible rfl
       rotate_left
       · simp only [Act.put, z1, z2, z3, i64_w, i32_w]; rfl
       refine one_ (i := 24) (N := some 100) (zm 30 67108863) rfl rfl (one_of HT_.out (by kernel_rfl)) (by decide) (fun K hK => ?_)
       refine goes_ Tryz.func16 (by kernel_rfl) rfl #[.agg #[.int .i64 t193, .int .i64 t194, .slice Ao139 t195.length co139]] (by rfl) rfl rfl (by (try simp only [List.map_toArray, List.map_cons, List.map_nil]); try rfl) ?_
       with_reducible refine (aL_old.calls k1 t193 t194 _ _ t195 t211 t212 t213 _ ?side1 ?side2 A43.out).mono ?_
       (case side1 => exact zQ HO197)
       (case side2 => exact (Kd.R_reads' HO197.out).2.1)
       rintro e w147 ⟨v214, rfl, ho0, hb⟩
       refine ⟨_, rfl, ?_⟩
       replace HO178 := zRb HO178 hb; replace HO181 := zRb HO181 hb; replace HO190 := zRb HO190 hb; replace HO197 := zRb HO197 hb; replace HO204 := Zs.mk (Kd.V_elder' (zV HO204) (Kd.R_base ho0) hb); replace HO209 := Zs.mk (Kd.V_elder' (zV HO209) (Kd.R_base ho0) hb); have HO215 := Zs.mk (Kd.R_lower ho0 (bsz zB)); replace BK166 := zKb BK166 hb; replace BK167 := zKb BK167 hb; replace BK192 := zKb BK192 hb; replace BK199 := zKb BK199 hb; replace HB := zBs hb
       refine hK.out _ _ (zJ3 (zC3 BK192) (zJ3 (zC3 BK166) (zJ3 (zC3 BK199) (zC3 BK167)))) (fun hHeld => ?_)
       clear hK K
       refine norm_ (a' := ?_) ?_ ?_
       rotate_left
       ·
        show Act.put _ (some 100) _ = _
        simp only [Act.put, z1, z2, z3, i64_w, i32_w]
        rfl
       refine one_ (i := 26) (N := some 102) (zm 30 134217727) rfl rfl (one_of HT_.out (by kernel_rfl)) (by decide) (fun K hK => ?_)
       refine goes_ Tryz.func16 (by kernel_rfl) rfl #[.agg #[.int .i64 1099511627776, .int .i64 65535, .slice Ao118 y179.length co118]] (by rfl) rfl rfl (by (try simp only [List.map_toArray, List.map_cons, List.map_nil]); try rfl) ?_
       with_reducible refine (aL_old.calls k1 1099511627776 65535 _ _ y179 t216 t217 t218 _ ?side1 ?side2 A44.out).mono ?_
       (case side1 => exact zQ HO181)
       (case side2 => exact (Kd.R_reads' HO181.out).2.1)
       rintro e w148 ⟨v219, rfl, ho0, hb⟩
       refine ⟨_, rfl, ?_⟩
       replace HO178 := zRb HO178 hb; replace HO181 := zRb HO181 hb; replace HO190 := zRb HO190 hb; replace HO197 := zRb HO197 hb; replace HO204 := Zs.mk (Kd.V_elder' (zV HO204) (Kd.R_base ho0) hb); replace HO209 := Zs.mk (Kd.V_elder' (zV HO209) (Kd.R_base ho0) hb); have HO220 := Zs.mk (Kd.R_lower (Kd.R_new' ho0 (Kd.R_lt (zR HO215))) (bsz zB)); replace HO215 := Zs.mk (Kd.R_elder' (zR HO215) (Kd.R_base ho0) hb); replace BK166 := zKb BK166 hb; replace BK167 := zKb BK167 hb; replace BK192 := zKb BK192 hb; replace BK199 := zKb BK199 hb; replace HB := zBs hb
       obtain ⟨Ao149, co149, eo149⟩ := Kd.R_slice HO215.out
       (first | subst eo149 | (injection eo149 with f1_ f2_ f3_; have f4_ := f1_.symm; have f5_ := f3_.symm; clear f1_ f2_ f3_; subst f4_; subst f5_))
       obtain ⟨Ao150, co150, eo150⟩ := Kd.R_slice HO220.out
       (first | subst eo150 | (injection eo150 with f1_ f2_ f3_; have f4_ := f1_.symm; have f5_ := f3_.symm; clear f1_ f2_ f3_; subst f4_; subst f5_))
       refine hK.out _ _ (zJ3 (zC3 BK192) (zJ3 (zC3 BK166) (zJ3 (zC3 BK199) (zC3 BK167)))) (fun hHeld => ?_)
       clear hK K
       refine norm_ (a' := ?_) ?_ ?_
       rotate_left
       ·
        show Act.put _ (some 102) _ = _
        simp only [Act.put, z1, z2, z3, i64_w, i32_w]
        rfl
       refine one_ (i := 27) (N := some 103) (zm 30 268435455) rfl rfl (one_of HT_.out (by kernel_rfl)) (by decide) (fun K hK => ?_)
       refine goes_ Tryz.func30 (by kernel_rfl) rfl #[.agg #[.int .i64 t211, .int .i64 t212, .slice Ao149 t213.length co149], .agg #[.int .i64 t216, .int .i64 t217, .slice Ao150 t218.length co150]] (by rfl) rfl rfl (by (try simp only [List.map_toArray, List.map_cons, List.map_nil]); try rfl) ?_
       with_reducible refine (aL_sameAnswer.calls k1 t211 t212 _ _ t213 t216 t217 _ _ t218 false _ ?side1 ?side2 ?side3 ?side4 A45.out).mono ?_
       (case side1 => exact zQ HO215)
       (case side2 => exact (Kd.R_reads' HO215.out).2.1)
       (case side3 => exact zQ HO220)
       (case side4 => exact (Kd.R_reads' HO220.out).2.1)
       rintro e w151 ⟨rfl, hb⟩
       refine ⟨_, rfl, ?_⟩
       replace HO178 := zRb HO178 hb; replace HO181 := zRb HO181 hb; replace HO190 := zRb HO190 hb; replace HO197 := zRb HO197 hb; replace HO204 := Zs.mk (Kd.V_below (zV HO204) hb); replace HO209 := Zs.mk (Kd.V_below (zV HO209) hb); replace HO215 := zRb HO215 hb; replace HO220 := zRb HO220 hb; replace BK166 := zKb BK166 hb; replace BK167 := zKb BK167 hb; replace BK192 := zKb BK192 hb; replace BK199 := zKb BK199 hb; replace HB := zBs hb
       refine hK.out _ _ (zJ3 (zC3 BK192) (zJ3 (zC3 BK166) (zJ3 (zC3 BK199) (zC3 BK167)))) (fun hHeld => ?_)
       clear hK K
       refine norm_ (a' := ?_) ?_ ?_
       rotate_left
       ·
        show Act.put _ (some 103) _ = _
        simp only [Act.put, z1, z2, z3, i64_w, i32_w]
        rfl
       refine zp 28 104 (zm 30 536870911) ?_
       refine zp 29 105 (zm 30 1073741823) ?_
       refine done_ (done_of HT_.out (by kernel_rfl)) ?_
       try go_wp2
       go_ret
       exact ⟨zE, zB⟩
     ·
      replace c42 := Bool.eq_false_iff.mpr c42; subst c42
      rw [if_neg (show ¬ (false = true) by decide)] at H
      exact absurd H (by simp)
end
end Go.Proofs.YtndojpcjhkncgaaGreatDoor.Q
end
section
namespace Go.Proofs.YtndojpcjhkncgaaGreatDoor.Q
open Go Go.RowKit Go.Proofs.YtndojpcjhkncgaaGreatDoorW.PrintWords
section
def ordN (i : Nat) : S47 := ⟨1099511626776 + (i : Int), 1099511627776, 1099511627776, 1098437885952, 1073741824⟩
def retN (i : Nat) : S49 := ⟨1099511626776 + (i : Int), 1 + ((i % 9 : Nat) : Int)⟩
def ordsN (n : Nat) : List S47 := (List.range' 0 n).map ordN
def retsN (n : Nat) : List S49 := (List.range' 0 n).map retN
theorem ordsN_len (n : Nat) : (ordsN n).length = n := by unfold ordsN; rw [List.length_map, List.length_range']
theorem retsN_len (n : Nat) : (retsN n).length = n := by unfold retsN; rw [List.length_map, List.length_range']
theorem ordsN_succ (n : Nat) : ordsN (n + 1) = ordsN n ++ [ordN n] := by unfold ordsN; rw [List.range'_concat, List.map_append]; simp
theorem retsN_succ (n : Nat) : retsN (n + 1) = retsN n ++ [retN n] := by unfold retsN; rw [List.range'_concat, List.map_append]; simp
theorem ords_ok (n : Nat) : ∀ (i : Nat) (last tot : Int), i + n ≤ 1000 → last < 1099511626776 + (i : Int) → tot + 1073741824 * (n : Int) ≤ 1099511627776 → ordersB last tot ((List.range' i n).map ordN) = true := by
  induction n with
  | zero => intro i last tot _ _ _; rfl
  | succ n ih =>
    intro i last tot hi hl ht
    rw [List.range'_succ, List.map_cons]
    have h := ih (i + 1) (ordN i).f0 (tot + (ordN i).f4) (by omega) (by show (1099511626776 + (i : Int)) < _; omega) (by show tot + 1073741824 + _ ≤ _; omega)
    unfold ordersB
    rw [h]
    have e : orderB (ordN i) = true := by
      unfold orderB countB ordN
      simp only [Bool.and_eq_true, decide_eq_true_eq]
      omega
    rw [e, decide_eq_true (show last < (ordN i).f0 from hl), decide_eq_true (show tot + (ordN i).f4 ≤ 1099511627776 by show tot + 1073741824 ≤ _; omega)]
    rfl
theorem rets_ok (n : Nat) : ∀ (i : Nat) (last : Int), i + n ≤ 1000 → last < 1099511626776 + (i : Int) → backsB last ((List.range' i n).map retN) = true := by
  induction n with
  | zero => intro i last _ _; rfl
  | succ n ih =>
    intro i last hi hl
    rw [List.range'_succ, List.map_cons]
    have h := ih (i + 1) (retN i).f0 (by omega) (by show (1099511626776 + (i : Int)) < _; omega)
    unfold backsB
    rw [h]
    have e : backB (retN i) = true := by
      unfold backB countB retN
      simp only [Bool.and_eq_true, decide_eq_true_eq]
      omega
    rw [e, decide_eq_true (show last < (retN i).f0 from hl)]
    rfl
theorem ords_valid : validB 1099511627776 65535 (ordsN 1000) = true := by
  unfold validB
  rw [show ordersB 0 0 (ordsN 1000) = true from ords_ok 1000 0 0 0 (by omega) (by omega) (by omega), ordsN_len]
  rfl
theorem rets_right : rightB 1099511627776 65535 (retsN 1000) = true := by
  unfold rightB
  rw [show backsB 0 (retsN 1000) = true from rets_ok 1000 0 0 (by omega) (by omega), retsN_len]
  rfl
theorem ords_long : validB 1099511627776 65535 (ordsN 1001) = false := by
  unfold validB
  rw [ordsN_len, decide_eq_false (by omega)]
  simp
theorem rets_long : rightB 1099511627776 65535 (retsN 1001) = false := by
  unfold rightB
  rw [retsN_len, decide_eq_false (by omega)]
  simp
theorem zeros_B (n : Nat) : strOfNums (List.replicate n (0 : Int)) = B (List.replicate n (0 : UInt8)) := by
  rw [B_nums, List.map_replicate]
  rfl
theorem zeros_form (n : Nat) : formB (List.replicate n (0 : UInt8)) = false := by
  cases h : formB (List.replicate n (0 : UInt8)) with
  | false => rfl
  | true =>
    exfalso
    have h3 := (form_parts h).2.2
    rw [List.getElem?_replicate] at h3
    split at h3
    · exact absurd (Option.some.inj h3) (by decide)
    · cases h3
theorem zeros_read (n : Nat) (h : n ≤ 1048576) : fileR (List.replicate n (0 : UInt8)) = (0, 0, [], 360) := by
  have e : readC fileOk (List.replicate n (0 : UInt8)) = 360 := by
    unfold readC
    rw [if_neg (by rw [List.length_replicate]; omega), zeros_form]
    rfl
  unfold fileR
  rw [e, if_neg (by decide)]
theorem zeros_long (n : Nat) (h : 1048576 < n) : fileR (List.replicate n (0 : UInt8)) = (0, 0, [], 3) := by
  have e : readC fileOk (List.replicate n (0 : UInt8)) = 3 := by
    unfold readC
    rw [if_pos (by rw [List.length_replicate]; exact h)]
  unfold fileR
  rw [e, if_neg (by decide)]
theorem limits_end : Ev (fun k => aL_limits.l0 k 1001 1099511627776 65535 (ordsN 1001) 1099511627776 65535 (retsN 1001)) true := by
  have hw := Write_ev 1099511627776 65535 (ordsN 1000) (by rw [ordsN_len]; omega)
  unfold writeS at hw
  rw [if_pos ords_valid] at hw
  have ha := WriteAnswer_ev 1099511627776 65535 (retsN 1000) (by rw [retsN_len]; omega)
  unfold answerS at ha
  rw [if_pos rets_right] at ha
  have hl1 := fileText_len ords_valid
  have hl2 := answerText_len rets_right
  rw [ordsN_len] at hl1
  rw [retsN_len] at hl2
  have t1 : (ordsN 1001).take (1000 : Int).toNat = ordsN 1000 := by rw [ordsN_succ 1000]; exact List.take_left' (ordsN_len 1000)
  have t2 : (retsN 1001).take (1000 : Int).toNat = retsN 1000 := by rw [retsN_succ 1000]; exact List.take_left' (retsN_len 1000)
  have hv := Valid_ev 1099511627776 65535 (ordsN 1001) (by rw [ordsN_len]; omega)
  rw [ords_long] at hv
  have hr := Right_ev 1099511627776 65535 (retsN 1001) (by rw [retsN_len]; omega)
  rw [rets_long] at hr
  have hz1 := Read_ev (List.replicate 1048576 (0 : UInt8)) (by rw [List.length_replicate]; omega)
  have hz2 := Read_ev (List.replicate 1048577 (0 : UInt8)) (by rw [List.length_replicate]; omega)
  rw [zeros_read _ (by omega), ← zeros_B] at hz1
  rw [zeros_long _ (by omega), ← zeros_B] at hz2
  have hc : List.replicate 1048577 (0 : Int) = List.replicate 1048576 (0 : Int) ++ [0] := List.replicate_succ' 
  rw [hc] at hz2
  refine Ev.step (fun k => by rw [aL_limits.l0]) (Ev.neg (by omega) (Ev.bind hv (Ev.neg Bool.false_ne_true (Ev.bind hr (Ev.neg Bool.false_ne_true ?_)))))
  refine Ev.pos (by rw [ordsN_len]; omega) ?_
  rw [t1, t2]
  refine Ev.const rfl (Ev.pos (by rw [retsN_len]; omega) (Ev.const rfl (Ev.bind hw (Ev.bind ha ?_))))
  refine Ev.bind (Read_ev _ (by omega)) (Ev.bind (ReadAnswer_ev _ (by omega)) ?_)
  rw [fileR_text _ _ _ ords_valid, answerR_text _ _ _ rets_right]
  refine Ev.pos rfl (Ev.pos rfl (Ev.pos rfl (Ev.pos rfl ?_)))
  refine Ev.const (show aL_plain.f _ _ _ = some _ from rfl) (Ev.const (show aL_plain.f _ _ _ = some _ from rfl) ?_)
  refine Ev.bind (sameFile_ev _ _ (ordsN 1000) (by rw [ordsN_len]; omega)) (Ev.pos rfl ?_)
  refine Ev.bind (old_ev _ _ (retsN 1000) (by rw [retsN_len]; omega)) (Ev.bind (old_ev _ _ (retsN 1000) (by rw [retsN_len]; omega)) ?_)
  refine Ev.bind (sameAnswer_ev _ _ ((retsN 1000).map asRef) (by rw [List.length_map, retsN_len]; omega)) (Ev.pos rfl ?_)
  generalize hZ : List.replicate 1048576 (0 : Int) = Z at hz1 hz2 ⊢
  refine Ev.pos (by omega) (Ev.const rfl (Ev.bind hz1 (Ev.pos (by rw [← hZ, List.length_replicate]; omega) (Ev.bind hz2 (Ev.pos rfl (Ev.ret rfl))))))
theorem limits_l0 (d : Nat) : ∀ (i : Nat), i + d = 1001 → Ev (fun k => aL_limits.l0 k (i : Int) 1099511627776 65535 (ordsN i) 1099511627776 65535 (retsN i)) true := by
  induction d with
  | zero =>
    intro i hi
    obtain rfl : i = 1001 := by omega
    exact limits_end
  | succ d ih =>
    intro i hi
    have h := ih (i + 1) (by omega)
    rw [ordsN_succ, retsN_succ] at h
    refine Ev.step (fun k => by rw [aL_limits.l0]) (Ev.pos (by omega) (Ev.pos (by rw [ordsN_len]; omega) (Ev.pos (by rw [retsN_len]; omega) ?_)))
    have e1 : Int.tmod (i : Int) 9 = ((i % 9 : Nat) : Int) := rfl
    rw [e1, w64 (by omega) (by omega), w64 (n := 1099511626776 + (i : Int)) (by omega) (by omega), w64 (n := 1 + ((i % 9 : Nat) : Int)) (by omega) (by omega)]
    exact h
theorem limits_ev : Ev (fun k => aL_limits.f k) true := by
  unfold aL_limits.f
  exact limits_l0 1001 0 (by omega)
end
end Go.Proofs.YtndojpcjhkncgaaGreatDoor.Q
end
