/- Part 4 of a proof: the texts QFref36Read, QFref36ReadAnswer, SRef, QE47, QFlaw36sameOrders, QFlaw36sameFile, QE78, QFlaw36sameAnswer, QFlaw36old, SSame, QFbankMatch1, QFapiOrderintat56, QFbankMatch, QFref36Match, SMatch, QFlaw36two, put together by a program of this repo. -/
import Derived.Test.YtndojpcjhkncgaaGreatDoorMSmall1
import Derived.Test.YtndojpcjhkncgaaGreatDoorMSmall2
import Derived.Test.YtndojpcjhkncgaaGreatDoorMSmall3
set_option linter.unusedVariables false
set_option linter.unusedSimpArgs false
section
namespace Go.Proofs.YtndojpcjhkncgaaGreatDoor.Q
open Go.RowKit Go.Proofs.YtndojpcjhkncgaaGreatDoorW.PrintWords Go.Proofs.YtndojpcjhkncgaaGreatDoorW.PrintLast Go.Proofs.YtndojpcjhkncgaaGreatDoorW.PrintMore
section
def aR_Read.l0 : Nat → ByteArray → List (List Int) → Int → Int → Int → List (S47) → Option (Int × Int × (List (S47)) × Int)
 | 0, _, _, _, _, _, _ => none
 | k + 1, x0, x4, x7, x312000, x312001, x312002 => if x7 < (x4.length : Int) then (if 0 ≤ x7 then (if 0 < ((rd_L6 x4 x7).length : Int) then (if 1 < ((rd_L6 x4 x7).length : Int) then (if 2 < ((rd_L6 x4 x7).length : Int) then (if 3 < ((rd_L6 x4 x7).length : Int) then (if 4 < ((rd_L6 x4 x7).length : Int) then (if x312002.length < 3518437208883 then (aR_Read.l0 k x0 x4 (wrap64 (x7 + 1)) x312000 x312001 (x312002 ++ [(⟨rd (rd_L6 x4 x7) 0, rd (rd_L6 x4 x7) 1, rd (rd_L6 x4 x7) 2, rd (rd_L6 x4 x7) 3, rd (rd_L6 x4 x7) 4⟩ : S47)])) else (none)) else (none)) else (none)) else (none)) else (none)) else (none)) else (none)) else ((aR_Write.f k x312000 x312001 x312002).bind fun bt321 => (if bt321.2 = 0 then (if bt321.1.toList = x0.toList then (some (x312000, x312001, x312002, 0)) else (some (0, 0, ([] : List (S47)), 362))) else (some (0, 0, ([] : List (S47)), 362))))
def aR_Read.f (k : Nat) (a0 : ByteArray) : Option (Int × Int × (List (S47)) × Int) := (aR_parse.f k a0 (⟨#[80, 65, 89]⟩ : ByteArray) 4 (⟨#[111, 114, 100, 101, 114]⟩ : ByteArray) 5).bind fun bt303 => (if bt303.2 = 0 then (if 0 < (bt303.1.length : Int) then (if 0 < ((rd_L6 bt303.1 0).length : Int) then (if 1 < ((rd_L6 bt303.1 0).length : Int) then (aR_Read.l0 k a0 bt303.1 1 (rd (rd_L6 bt303.1 0) 0) (rd (rd_L6 bt303.1 0) 1) ([] : List (S47))) else (none)) else (none)) else (none)) else (some (0, 0, ([] : List (S47)), bt303.2)))
def aR_Read.T4 : Bool × List (List Nat × List Nat) := (true, [([], []), ([0], [0]), ([1], [1]), ([2], [2]), ([3], [3]), ([], []), ([5], [5]), ([6], [6]), ([7], [7]), ([8], [8]), ([4, 9], [4, 9]), ([], []), ([11, 10, 0, 1, 2, 3, 4, 5, 6, 7, 8, 9, 10, 11], [10, 11])])
def aR_Read.B4 : List Nat := [0, 1, 3, 7, 15, 0, 32, 96, 224, 480, 1023, 0, 4095]
theorem aR_Read.tab4 : rtab .any (opsOf Tryz.f32 4) = aR_Read.T4 := by kernel_rfl
theorem aR_Read.bits4 : waitsOk aR_Read.T4.2 aR_Read.B4 = true := by kernel_rfl
def aR_Read.T9 : Bool × List (List Nat × List Nat) := (true, [([], []), ([0], [0]), ([], []), ([2], [2]), ([3], [3]), ([], []), ([5], [5]), ([6], [6]), ([], []), ([8], [8]), ([9], [9]), ([], []), ([11], [11]), ([12], [12]), ([], []), ([14], [14]), ([15], [15]), ([4, 7, 10, 13, 16], [4, 7, 10, 13, 16]), ([17], [17]), ([1, 18], [1, 18]), ([0, 1, 2, 3, 4, 5, 6, 7, 8, 9, 10, 11, 12, 13, 14, 15, 16, 17, 18, 19], []), ([20, 19, 19, 0, 1, 2, 3, 4, 5, 6, 7, 8, 9, 10, 11, 12, 13, 14, 15, 16, 17, 18, 19], [19, 20])])
def aR_Read.B9 : List Nat := [0, 1, 0, 4, 12, 0, 32, 96, 0, 256, 768, 0, 2048, 6144, 0, 16384, 49152, 131068, 262140, 524287, 1048575, 2097151]
theorem aR_Read.tab9 : rtab .any (opsOf Tryz.f32 9) = aR_Read.T9 := by kernel_rfl
theorem aR_Read.bits9 : waitsOk aR_Read.T9.2 aR_Read.B9 = true := by kernel_rfl
set_option maxHeartbeats 8000000 in
set_option maxRecDepth 100000 in
theorem aR_Read.calls (k : Nat) (a0 : ByteArray) (r1 : Int) (r2 : Int) (r3 : List (S47)) (r4 : Int) (w : World) (h : aR_Read.f k a0 = some (r1, r2, r3, r4)) :
  Calls Tryz.prog 32 #[.string a0] w fun e w' => ∃ v2_ : Value, e = .returned (.tuple #[.agg #[.int .i64 r1, .int .i64 r2, v2_], .int .i64 r4]) ∧ Kd.R k47 47 w' w.heap.size (fun _ => True) v2_ r3 ∧ Below w.heap.size w w' := by
 have hu36 := Tryz.underlying36; have hu47 := Tryz.underlying47; have HB := Zs.mk (Below.refl w.heap.size w); have H : ((aR_parse.f k a0 (⟨#[80, 65, 89]⟩ : ByteArray) 4 (⟨#[111, 114, 100, 101, 114]⟩ : ByteArray) 5).bind fun bt303 => (if bt303.2 = 0 then (if 0 < (bt303.1.length : Int) then (if 0 < ((rd_L6 bt303.1 0).length : Int) then (if 1 < ((rd_L6 bt303.1 0).length : Int) then (aR_Read.l0 k a0 bt303.1 1 (rd (rd_L6 bt303.1 0) 0) (rd (rd_L6 bt303.1 0) 1) ([] : List (S47))) else (none)) else (none)) else (none)) else (some (0, 0, ([] : List (S47)), bt303.2)))) = some (r1, r2, r3, r4) := h; clear h; obtain ⟨⟨t303, t304⟩, A2, H⟩ := zb H; (try dsimp only [-Int.reduceToNat] at H)
 by_cases c3 : t304 = 0
 ·
  rw [if_pos c3] at H
  obtain ⟨c3b0, c3b1⟩ := zeq c3; clear c3
  have c4 := zc H
  rw [if_pos c4] at H
  have c4b0 := decide_eq_true c4; have c4b1 : decide (0 < t303.length) = true := decide_eq_true (by omega); clear c4
  have c5 := zc H
  rw [if_pos c5] at H
  have c5b0 := decide_eq_true c5; have c5b1 : decide (0 < (rd_L6 t303 0).length) = true := decide_eq_true (by omega); clear c5
  have c6 := zc H
  rw [if_pos c6] at H
  have c6b0 := decide_eq_true c6; have c6b1 : decide (1 < (rd_L6 t303 0).length) = true := decide_eq_true (by omega); clear c6; have H' := Zs.mk H; clear H
  go_enter Tryz.func32, Tryz.ntmps32
  try go_wp2_with (first | ((with_reducible refine gkd (N := 2) rfl ?_); refine bxe ?hg (N := 2) ?hd (cs := #[.int .i64 0, .int .i64 0, .slice none 0 0]) (t := 36) ?hr ?_; (case hd => rfl); (case hg => rfl); (case hr => first | (go_simp; done) | (go_simp; rfl)); intro gb302 hg w7 hbox hb; have BK302 := Zs.mk (hbox); have GW302 := zG (w := w) hg; have GE302 := zG (w := w) hg; replace HB := zBs hb; clear hb hbox hg) | ((with_reducible refine gkc (f := 57) rfl ?_); refine zgo (some 13) Tryz.func57 #[.string a0, .string (⟨#[80, 65, 89]⟩ : ByteArray), .int .i64 4, .string (⟨#[111, 114, 100, 101, 114]⟩ : ByteArray), .int .i64 5] ?_; (with_reducible refine (aR_parse.calls k a0 (⟨#[80, 65, 89]⟩ : ByteArray) 4 (⟨#[111, 114, 100, 101, 114]⟩ : ByteArray) 5 t303 t304 _ A2.out).mono ?_); rintro e w8 ⟨v305, rfl, ho0, hb⟩; refine ⟨_, rfl, ?_⟩; have HO306 := Zs.mk (Kd.S_lower ho0 (bsz zB)); replace BK302 := zKb BK302 hb; replace HB := zBs hb))
  replace HO306 := Zs.mk (Kd.S_drew HO306.out); replace BK302 := Zs.mk (blk_drew BK302.out); replace HB := Zs.mk (below_drew1 HB.out); obtain ⟨Ao10, co10, eo10⟩ := Kd.S_slice HO306.out
  (first | subst eo10 | (injection eo10 with f1_ f2_ f3_; have f4_ := f1_.symm; have f5_ := f3_.symm; clear f1_ f2_ f3_; subst f4_; subst f5_))
  have p307 : 0 ≤ (0 : Int) := (by omega); have q307 : 0 < (t303.length : Int) := zD; obtain ⟨ad307, A307_0, c307_0, e307, hx307_0, hl307_0, hi307_0⟩ := at_L6 (Kd.S_reads' HO306.out).2.2 0 p307 q307
  cases e307
  obtain ⟨ce307, hce307, hMe307, hcc307⟩ := Kd.S_get HO306.out [] 0 p307 (by first | exact q307 | exact zD | (have e_ := (Kd.S_reads' HO306.out).1; omega))
  obtain ⟨ve307_0, rfl, ge307_0⟩ := hMe307; have hv307_0 := hcc307 0 _ rfl
  rw [Nat.add_zero, show ((Kd.slice 3 (Kd.int .i64))).sz = 1 from rfl, Nat.mul_one] at hv307_0
  replace hv307_0 := Option.some.inj (hv307_0.symm.trans hx307_0)
  rw [hv307_0] at ge307_0
  have HL307_0 := Zs.mk (show Kd.R (Kd.int .i64) 3 _ _ _ _ (rd_L6 t303 0) from ge307_0); clear hv307_0 ge307_0; clear hcc307 hce307; have qi307 : (0 < t303.length) = True := eq_true (by omega)
  (try rw [show ((0 : Int)).toNat = 0 from rfl] at hx307_0)
  (try rw [Addr.add_zero'] at hx307_0)
  have HR307_0 := Zs.mk hi307_0; have HC307_0 := Zs.mk hl307_0; clear hi307_0 hl307_0; replace p307 := eq_true p307; replace q307 := eq_true q307; have p308 : 0 ≤ (0 : Int) := (by omega); have q308 : 0 < ((rd_L6 t303 0).length : Int) := zD; obtain ⟨ad308, e308, hx308_0⟩ := Kd.at_int (by repeat (first | (with_reducible exact HR307_0.out) | (with_reducible refine Kd.C_alloc ?_ _) | (with_reducible refine Kd.C_drewN ?_ _) | (with_reducible refine Kd.C_drew ?_) | exact HR307_0.out)) 0 p308 q308
  cases e308
  have qi308 : (0 < (rd_L6 t303 0).length) = True := eq_true (by omega)
  (try rw [show ((0 : Int)).toNat = 0 from rfl] at hx308_0)
  (try rw [Addr.add_zero'] at hx308_0)
  replace p308 := eq_true p308; replace q308 := eq_true q308; have p309 : 0 ≤ (0 : Int) := (by omega); have q309 : 0 < (t303.length : Int) := zD; obtain ⟨ad309, A309_0, c309_0, e309, hx309_0, hl309_0, hi309_0⟩ := at_L6 (Kd.S_reads' HO306.out).2.2 0 p309 q309; obtain rfl : ad307 = ad309 := (by injection e309); obtain ⟨ce309, hce309, hMe309, hcc309⟩ := Kd.S_get HO306.out [] 0 p309 (by first | exact q309 | exact zD | (have e_ := (Kd.S_reads' HO306.out).1; omega))
  obtain ⟨ve309_0, rfl, ge309_0⟩ := hMe309; have hv309_0 := hcc309 0 _ rfl
  rw [Nat.add_zero, show ((Kd.slice 3 (Kd.int .i64))).sz = 1 from rfl, Nat.mul_one] at hv309_0
  replace hv309_0 := Option.some.inj (hv309_0.symm.trans hx309_0)
  rw [hv309_0] at ge309_0
  have HL309_0 := Zs.mk (show Kd.R (Kd.int .i64) 3 _ _ _ _ (rd_L6 t303 0) from ge309_0); clear hv309_0 ge309_0; clear hcc309 hce309; have qi309 : (0 < t303.length) = True := eq_true (by omega)
  (try rw [show ((0 : Int)).toNat = 0 from rfl] at hx309_0)
  (try rw [Addr.add_zero'] at hx309_0)
  have HR309_0 := Zs.mk hi309_0; have HC309_0 := Zs.mk hl309_0; clear hi309_0 hl309_0; replace p309 := eq_true p309; replace q309 := eq_true q309; have ea_ := Option.some.inj (hx307_0.symm.trans hx309_0); injection ea_ with ea_ en_ ec_; subst ea_; subst ec_; clear en_; have p310 : 0 ≤ (1 : Int) := (by omega); have q310 : 1 < ((rd_L6 t303 0).length : Int) := zD; obtain ⟨ad310, e310, hx310_0⟩ := Kd.at_int (by repeat (first | (with_reducible exact HR309_0.out) | (with_reducible refine Kd.C_alloc ?_ _) | (with_reducible refine Kd.C_drewN ?_ _) | (with_reducible refine Kd.C_drew ?_) | exact HR309_0.out)) 1 p310 q310
  cases e310
  (try simp only [show (1 : Int).toNat = 1 from rfl, Nat.reduceMul, Nat.reduceEqDiff, Go.Addr.add, ↓reduceIte] at hx310_0)
  have qi310 : (1 < (rd_L6 t303 0).length) = True := eq_true (by omega)
  (try rw [show ((1 : Int)).toNat = 1 from rfl] at hx310_0)
  replace p310 := eq_true p310; replace q310 := eq_true q310
  refine start_ (n := 13) (S := fun w' => w'.cell? ad307 = some (.slice (some ad308) (rd_L6 t303 0).length c307_0) ∧ w'.cell? ad308 = some (.int .i64 (rd (rd_L6 t303 0) 0)) ∧ w'.cell? ad307 = some (.slice (some ad308) (rd_L6 t303 0).length c307_0) ∧ w'.cell? ⟨ad308.block, ad308.off + 1, none⟩ = some (.int .i64 (rd (rd_L6 t303 0) 1))) (ds := []) (zo 13) (by kernel_rfl) rfl rfl ⟨hx307_0, hx308_0, hx309_0, hx310_0⟩ (fun hHeld => ?_); refine with_tabW aR_Read.tab4 aR_Read.bits4 (fun HT_ HW_ => ?_)
  generalize w8.drew = w9 at HO306 BK302 HB HL307_0 HL309_0 HR307_0 HR309_0 hx307_0 hx308_0 hx309_0 hx310_0 hHeld ⊢
  refine zp 0 20 (zm 13 1) ?_
  refine zp 1 21 (zm 13 3) ?_
  refine zp 5 25 (zm 13 35) ?_
  refine zp 6 26 (zm 13 99) ?_
  refine take_ (i := 2) (N := some 22) (v := ?_) (a' := ?_) (zm 13 103) rfl rfl (take_ofW HT_.out HW_.out (by kernel_rfl)) (fun _ _ _ h => h) (Or.inl ⟨by rfl, ?_⟩) hHeld ?_ ?_
  rotate_left
  ·
   rintro w' ⟨s0, s1, s2, s3⟩
   go_simp
   with_reducible rfl
  rotate_left
  · simp only [Act.put, z1, z2, z3, i64_w, i32_w]; rfl
  refine zp 3 23 (zm 13 111) ?_
  refine take_ (i := 4) (N := some 24) (v := ?_) (a' := ?_) (zm 13 127) rfl rfl (take_ofW HT_.out HW_.out (by kernel_rfl)) (fun _ _ _ h => h) (Or.inl ⟨by rfl, ?_⟩) hHeld ?_ ?_
  rotate_left
  ·
   rintro w' ⟨s0, s1, s2, s3⟩
   go_simp
   with_reducible rfl
  rotate_left
  · simp only [Act.put, z1, z2, z3, i64_w, i32_w]; rfl
  refine take_ (i := 7) (N := some 27) (v := ?_) (a' := ?_) (zm 13 255) rfl rfl (take_ofW HT_.out HW_.out (by kernel_rfl)) (fun _ _ _ h => h) (Or.inl ⟨by rfl, ?_⟩) hHeld ?_ ?_
  rotate_left
  ·
   rintro w' ⟨s0, s1, s2, s3⟩
   go_simp
   with_reducible rfl
  rotate_left
  · simp only [Act.put, z1, z2, z3, i64_w, i32_w]; rfl
  refine zp 8 28 (zm 13 511) ?_
  refine take_ (i := 9) (N := some 29) (v := ?_) (a' := ?_) (zm 13 1023) rfl rfl (take_ofW HT_.out HW_.out (by kernel_rfl)) (fun _ _ _ h => h) (Or.inl ⟨by rfl, ?_⟩) hHeld ?_ ?_
  rotate_left
  ·
   rintro w' ⟨s0, s1, s2, s3⟩
   go_simp
   with_reducible rfl
  rotate_left
  · simp only [Act.put, z1, z2, z3, i64_w, i32_w]; rfl
  refine zp 10 30 (zm 13 2047) ?_
  refine one_ (i := 11) (N := some 6) (zm 13 4095) rfl rfl (one_of HT_.out (by kernel_rfl)) (by decide) (fun K hK => ?_)
  refine box_step ?hg (N := 6) ?hd (cs := #[.int .i64 0, .int .i64 0, .slice none 0 0]) (t := 36) ?hr ?_; (case hd => rfl); (case hg => rfl); (case hr => first | (go_simp; done) | (go_simp; rfl))
  intro gb311 hg w11 hbox hb; have HS0_ := (hb.cell (World.block_lt_of_cell? _ _ (hHeld.1))).trans (hHeld.1); have HS1_ := (hb.cell (World.block_lt_of_cell? _ _ (hHeld.2.1))).trans (hHeld.2.1); have HS2_ := (hb.cell (World.block_lt_of_cell? _ _ (hHeld.2.2.1))).trans (hHeld.2.2.1); have HS3_ := (hb.cell (World.block_lt_of_cell? _ _ (hHeld.2.2.2))).trans (hHeld.2.2.2); have n0_ := Zs.mk (Kd.S_below (zS HO306) hb)
  have n1_ := Zs.mk (Kd.R_below (by (with_reducible repeat (first | apply Kd.Ral | apply Kd.Rdn | apply Kd.Rdw)); exact HL307_0.out) hb)
  have n2_ := Zs.mk (Kd.R_below (by (with_reducible repeat (first | apply Kd.Ral | apply Kd.Rdn | apply Kd.Rdw)); exact HL309_0.out) hb)
  have n3_ := zKb BK302 hb
  have n4_ := Zs.mk (Kd.C_below (by repeat (first | (with_reducible exact HR307_0.out) | (with_reducible refine Kd.C_alloc ?_ _) | (with_reducible refine Kd.C_drewN ?_ _) | (with_reducible refine Kd.C_drew ?_) | exact HR307_0.out)) hb); have n5_ := Zs.mk (Kd.C_below (by repeat (first | (with_reducible exact HR309_0.out) | (with_reducible refine Kd.C_alloc ?_ _) | (with_reducible refine Kd.C_drewN ?_ _) | (with_reducible refine Kd.C_drew ?_) | exact HR309_0.out)) hb); have n6_ := zBs hb; have n7_ := Zs.mk (hbox); have n8_ := zG (w := w) hg
  have n9_ := zG (w := w) hg
  have n10_ := zN hg (zK BK302)
  have n11_ := zM hg (zK BK302)
  clear HO306; clear HL307_0; clear HL309_0; clear BK302; clear HR307_0; clear HR309_0; clear HB; have HO306 := n0_; have HL307_0 := n1_; have HL309_0 := n2_; have BK302 := n3_; have HR307_0 := n4_; have HR309_0 := n5_; have HB := n6_; have BK311 := n7_; have GW311 := n8_; have GE311 := n9_; have NB302_311 := n10_; have NB311_302 := n11_; clear n0_ n1_ n2_ n3_ n4_ n5_ n6_ n7_ n8_ n9_ n10_ n11_; clear hb hbox hg
  refine hK.out _ _ ⟨HS0_, HS1_, HS2_, HS3_⟩ (fun hHeld => ?_)
  clear hK K
  refine norm_ (a' := ?_) ?_ ?_
  rotate_left
  ·
   show Act.put _ (some 6) _ = _
   simp only [Act.put, z1, z2, z3, i64_w, i32_w]
   rfl
  refine one_ (i := 12) (N := none) (zm 13 8191) rfl rfl (one_of HT_.out (by kernel_rfl)) (by decide) (fun K hK => ?_)
  have hs12 : w11.cell? ⟨gb311, 0, none⟩ = some (.int .i64 0) := (bkc BK311.out 0).trans rfl; have hfs12 := bkf BK311.out 0; have hns12_0 := NB302_311.out; have hms12_0 := NB311_302.out; have hs13 : w11.cell? ⟨gb311, 1, none⟩ = some (.int .i64 0) := (bkc BK311.out 1).trans rfl; have hfs13 := bkf BK311.out 1; have hns13_0 := NB302_311.out; have hms13_0 := NB311_302.out; have hs14 : w11.cell? ⟨gb311, 2, none⟩ = some (.slice none 0 0) := (bkc BK311.out 2).trans rfl; have hfs14 := bkf BK311.out 2; have hns14_0 := NB302_311.out; have hms14_0 := NB311_302.out
  refine skip_ (w1 := ?_) (by rfl) rfl ?_ ?_
  rotate_left
  · go_simp; rfl
  refine hK.out _ _ ⟨((cfr (p := ⟨gb311, _, none⟩) (by first | exact Kd.owb (Kd.S_ne HO306.out BK311.out (by decide)) | (rw [adb]; exact Kd.owb (Kd.S_ne HO306.out BK311.out (by decide))) | (show (Addr.add _ _).block ≠ _; rw [adb]; exact Kd.owb (Kd.S_ne HO306.out BK311.out (by decide))) | (dsimp only; exact Kd.owb (Kd.S_ne HO306.out BK311.out (by decide)))) _).trans (((cfr (p := ⟨gb311, _, none⟩) (by first | exact Kd.owb (Kd.S_ne HO306.out BK311.out (by decide)) | (rw [adb]; exact Kd.owb (Kd.S_ne HO306.out BK311.out (by decide))) | (show (Addr.add _ _).block ≠ _; rw [adb]; exact Kd.owb (Kd.S_ne HO306.out BK311.out (by decide))) | (dsimp only; exact Kd.owb (Kd.S_ne HO306.out BK311.out (by decide)))) _).trans (((cfr (p := ⟨gb311, _, none⟩) (by first | exact Kd.owb (Kd.S_ne HO306.out BK311.out (by decide)) | (rw [adb]; exact Kd.owb (Kd.S_ne HO306.out BK311.out (by decide))) | (show (Addr.add _ _).block ≠ _; rw [adb]; exact Kd.owb (Kd.S_ne HO306.out BK311.out (by decide))) | (dsimp only; exact Kd.owb (Kd.S_ne HO306.out BK311.out (by decide)))) _).trans (hHeld.1)))))), ((cfr (p := ⟨gb311, _, none⟩) (by first | exact Kd.owb (Kd.R_ne HL307_0.out BK311.out (by decide)) | (rw [adb]; exact Kd.owb (Kd.R_ne HL307_0.out BK311.out (by decide))) | (show (Addr.add _ _).block ≠ _; rw [adb]; exact Kd.owb (Kd.R_ne HL307_0.out BK311.out (by decide))) | (dsimp only; exact Kd.owb (Kd.R_ne HL307_0.out BK311.out (by decide)))) _).trans (((cfr (p := ⟨gb311, _, none⟩) (by first | exact Kd.owb (Kd.R_ne HL307_0.out BK311.out (by decide)) | (rw [adb]; exact Kd.owb (Kd.R_ne HL307_0.out BK311.out (by decide))) | (show (Addr.add _ _).block ≠ _; rw [adb]; exact Kd.owb (Kd.R_ne HL307_0.out BK311.out (by decide))) | (dsimp only; exact Kd.owb (Kd.R_ne HL307_0.out BK311.out (by decide)))) _).trans (((cfr (p := ⟨gb311, _, none⟩) (by first | exact Kd.owb (Kd.R_ne HL307_0.out BK311.out (by decide)) | (rw [adb]; exact Kd.owb (Kd.R_ne HL307_0.out BK311.out (by decide))) | (show (Addr.add _ _).block ≠ _; rw [adb]; exact Kd.owb (Kd.R_ne HL307_0.out BK311.out (by decide))) | (dsimp only; exact Kd.owb (Kd.R_ne HL307_0.out BK311.out (by decide)))) _).trans (hHeld.2.1)))))), ((cfr (p := ⟨gb311, _, none⟩) (by first | exact Kd.owb (Kd.S_ne HO306.out BK311.out (by decide)) | (rw [adb]; exact Kd.owb (Kd.S_ne HO306.out BK311.out (by decide))) | (show (Addr.add _ _).block ≠ _; rw [adb]; exact Kd.owb (Kd.S_ne HO306.out BK311.out (by decide))) | (dsimp only; exact Kd.owb (Kd.S_ne HO306.out BK311.out (by decide)))) _).trans (((cfr (p := ⟨gb311, _, none⟩) (by first | exact Kd.owb (Kd.S_ne HO306.out BK311.out (by decide)) | (rw [adb]; exact Kd.owb (Kd.S_ne HO306.out BK311.out (by decide))) | (show (Addr.add _ _).block ≠ _; rw [adb]; exact Kd.owb (Kd.S_ne HO306.out BK311.out (by decide))) | (dsimp only; exact Kd.owb (Kd.S_ne HO306.out BK311.out (by decide)))) _).trans (((cfr (p := ⟨gb311, _, none⟩) (by first | exact Kd.owb (Kd.S_ne HO306.out BK311.out (by decide)) | (rw [adb]; exact Kd.owb (Kd.S_ne HO306.out BK311.out (by decide))) | (show (Addr.add _ _).block ≠ _; rw [adb]; exact Kd.owb (Kd.S_ne HO306.out BK311.out (by decide))) | (dsimp only; exact Kd.owb (Kd.S_ne HO306.out BK311.out (by decide)))) _).trans (hHeld.2.2.1)))))), ((cfr (p := ⟨gb311, _, none⟩) (by first | exact Kd.owb (Kd.R_ne HL309_0.out BK311.out (by decide)) | (rw [adb]; exact Kd.owb (Kd.R_ne HL309_0.out BK311.out (by decide))) | (show (Addr.add _ _).block ≠ _; rw [adb]; exact Kd.owb (Kd.R_ne HL309_0.out BK311.out (by decide))) | (dsimp only; exact Kd.owb (Kd.R_ne HL309_0.out BK311.out (by decide)))) _).trans (((cfr (p := ⟨gb311, _, none⟩) (by first | exact Kd.owb (Kd.R_ne HL309_0.out BK311.out (by decide)) | (rw [adb]; exact Kd.owb (Kd.R_ne HL309_0.out BK311.out (by decide))) | (show (Addr.add _ _).block ≠ _; rw [adb]; exact Kd.owb (Kd.R_ne HL309_0.out BK311.out (by decide))) | (dsimp only; exact Kd.owb (Kd.R_ne HL309_0.out BK311.out (by decide)))) _).trans (((cfr (p := ⟨gb311, _, none⟩) (by first | exact Kd.owb (Kd.R_ne HL309_0.out BK311.out (by decide)) | (rw [adb]; exact Kd.owb (Kd.R_ne HL309_0.out BK311.out (by decide))) | (show (Addr.add _ _).block ≠ _; rw [adb]; exact Kd.owb (Kd.R_ne HL309_0.out BK311.out (by decide))) | (dsimp only; exact Kd.owb (Kd.R_ne HL309_0.out BK311.out (by decide)))) _).trans (hHeld.2.2.2))))))⟩ (fun hHeld => ?_)
  clear hK K
  refine done_ (done_of HT_.out (by kernel_rfl)) ?_
  try go_wp2
  go_loopg [7] k (fun kq v7 w' => ∃ (x7_1 : Int) (x312002_1 : List (S47)) (u312002 : Value), v7 = .int .i64 x7_1 ∧ Zs (aR_Read.l0 kq a0 t303 x7_1 (rd (rd_L6 t303 0) 0) (rd (rd_L6 t303 0) 1) x312002_1 = some (r1, r2, r3, r4)) ∧ Zs (kq ≤ k) ∧ Zs (Kd.S (Kd.slice 3 (Kd.int .i64)) 44 w' w.heap.size (fun _ => True) (.slice (some ad307) t303.length co10) t303) ∧ Zs (Kd.R k47 47 w' w.heap.size (fun _ => True) u312002 x312002_1) ∧ Zs (w'.heap[gb302]? = some (.cells #[.int .i64 0, .int .i64 0, (.slice none 0 0)] 36 (0, 0))) ∧ Zs (w'.heap[gb311]? = some (.cells #[.int .i64 (rd (rd_L6 t303 0) 0), .int .i64 (rd (rd_L6 t303 0) 1), u312002] 36 (0, 0))) ∧ Zs (Below w.heap.size w w'))
  case atStart => exact ⟨(1), (([] : List (S47))), (.slice none 0 0), zs, H', ⟨Nat.le_refl _⟩, ⟨by (with_reducible repeat (first | apply Kd.S_alloc | apply Kd.S_drewN | apply Kd.S_drew)); exact Kd.S_mono (Kd.S_far (p := ⟨gb311, 2, none⟩) (Kd.S_far (p := ⟨gb311, 1, none⟩) (Kd.S_far (p := ⟨gb311, 0, none⟩) (Kd.S_types HO306.out BK311.out (by decide)) (fun _ hk => hk.2) (.int .i64 (rd (rd_L6 t303 0) 0))) (fun _ hk => hk.2) (.int .i64 (rd (rd_L6 t303 0) 1))) (fun _ hk => hk.2) (.slice none 0 0)) (fun _ hk => trivial)⟩, ⟨by first | exact Kd.R_nil _ _ _ _ _ | exact Kd.N_nil _ _ _ _ _ | exact Kd.V_nil _ _ _ _ _ | exact Kd.Q_nil _ _ _ _ _ | exact Kd.S_nil _ _ _ _ _⟩, ⟨zF BK302⟩, ⟨zY BK311⟩, ⟨zB⟩⟩
  case round =>
   clear H'
   obtain ⟨x7_1, x312002_1, u312002, rfl, HA, HK1, HO_4, HO_312002, BK302, BK311, HB⟩ := hrel
   cases gk with
   | zero => exact absurd HA.out (by simp [aR_Read.l0])
   | succ k1 =>
    have H := HA.out; clear HA
    simp only [aR_Read.l0] at H
    by_cases c15 : x7_1 < (t303.length : Int)
    ·
     rw [if_pos c15] at H
     have c15b0 := decide_eq_true c15; clear c15
     have c16 := zc H
     rw [if_pos c16] at H
     have c16b0 := decide_eq_true c16; clear c16
     have c17 := zc H
     rw [if_pos c17] at H
     have c17b0 := decide_eq_true c17; have c17b1 : decide (0 < (rd_L6 t303 x7_1).length) = true := decide_eq_true (by omega); clear c17
     have c18 := zc H
     rw [if_pos c18] at H
     have c18b0 := decide_eq_true c18; have c18b1 : decide (1 < (rd_L6 t303 x7_1).length) = true := decide_eq_true (by omega); clear c18
     have c19 := zc H
     rw [if_pos c19] at H
     have c19b0 := decide_eq_true c19; have c19b1 : decide (2 < (rd_L6 t303 x7_1).length) = true := decide_eq_true (by omega); clear c19
     have c20 := zc H
     rw [if_pos c20] at H
     have c20b0 := decide_eq_true c20; have c20b1 : decide (3 < (rd_L6 t303 x7_1).length) = true := decide_eq_true (by omega); clear c20
     have c21 := zc H
     rw [if_pos c21] at H
     have c21b0 := decide_eq_true c21; have c21b1 : decide (4 < (rd_L6 t303 x7_1).length) = true := decide_eq_true (by omega); clear c21
     have c22 := zc H
     rw [if_pos c22] at H
     have LMc22 := Zs.mk c22; clear c22
     obtain ⟨y318, hy318⟩ : ∃ y_ : List (S47), y_ = (x312002_1 ++ [(⟨rd (rd_L6 t303 x7_1) 0, rd (rd_L6 t303 x7_1) 1, rd (rd_L6 t303 x7_1) 2, rd (rd_L6 t303 x7_1) 3, rd (rd_L6 t303 x7_1) 4⟩ : S47)]) := ⟨_, rfl⟩
     replace H : (aR_Read.l0 k1 a0 t303 (wrap64 (x7_1 + 1)) (rd (rd_L6 t303 0) 0) (rd (rd_L6 t303 0) 1) y318) = some (r1, r2, r3, r4) := by first | (rw [hy318]; with_reducible exact H) | (have H2_ := (Option.bind_some _ _).symm.trans H; rw [hy318]; with_reducible exact H2_) | (have H2_ := (Option.bind_some _ _).symm.trans H; with_reducible exact H2_) | with_reducible exact H | (rw [hy318]; exact H) | exact H
     have Ny318 := Zs.mk hy318; clear hy318; have H' := Zs.mk H; clear H; have p312 : 0 ≤ (x7_1 : Int) := zD; have q312 : x7_1 < (t303.length : Int) := zD; obtain ⟨ad312, A312_0, c312_0, e312, hx312_0, hl312_0, hi312_0⟩ := at_L6 (Kd.S_reads' HO_4.out).2.2 x7_1 p312 q312; obtain rfl : ad307 = ad312 := (by injection e312); obtain ⟨ce312, hce312, hMe312, hcc312⟩ := Kd.S_get HO_4.out [] x7_1 p312 (by first | exact q312 | exact zD | (have e_ := (Kd.S_reads' HO_4.out).1; omega))
     obtain ⟨ve312_0, rfl, ge312_0⟩ := hMe312; have hv312_0 := hcc312 0 _ rfl
     rw [Nat.add_zero, show ((Kd.slice 3 (Kd.int .i64))).sz = 1 from rfl, Nat.mul_one] at hv312_0
     replace hv312_0 := Option.some.inj (hv312_0.symm.trans hx312_0)
     rw [hv312_0] at ge312_0
     have HL312_0 := Zs.mk (show Kd.R (Kd.int .i64) 3 _ _ _ _ (rd_L6 t303 x7_1) from ge312_0); clear hv312_0 ge312_0; clear hcc312 hce312; have HR312_0 := Zs.mk hi312_0; have HC312_0 := Zs.mk hl312_0; clear hi312_0 hl312_0; replace p312 := eq_true p312; replace q312 := eq_true q312
     try go_wp2
     replace HO_4 := Zs.mk (Kd.S_drew HO_4.out); replace HO_312002 := Zs.mk (Kd.Rdw HO_312002.out); replace HL312_0 := Zs.mk (Kd.Rdw HL312_0.out); replace BK302 := Zs.mk (blk_drew BK302.out); replace BK311 := Zs.mk (blk_drew BK311.out); replace HR312_0 := Zs.mk (Kd.C_drew HR312_0.out); replace HB := Zs.mk (below_drew1 HB.out); have p313 : 0 ≤ (0 : Int) := (by omega); have q313 : 0 < ((rd_L6 t303 x7_1).length : Int) := zD; obtain ⟨ad313, e313, hx313_0⟩ := Kd.at_int (by repeat (first | (with_reducible exact HR312_0.out) | (with_reducible refine Kd.C_alloc ?_ _) | (with_reducible refine Kd.C_drewN ?_ _) | (with_reducible refine Kd.C_drew ?_) | exact HR312_0.out)) 0 p313 q313
     cases e313
     have qi313 : (0 < (rd_L6 t303 x7_1).length) = True := eq_true (by omega)
     (try rw [show ((0 : Int)).toNat = 0 from rfl] at hx313_0)
     (try rw [Addr.add_zero'] at hx313_0)
     replace p313 := eq_true p313; replace q313 := eq_true q313; have p314 : 0 ≤ (1 : Int) := (by omega); have q314 : 1 < ((rd_L6 t303 x7_1).length : Int) := zD; obtain ⟨ad314, e314, hx314_0⟩ := Kd.at_int (by repeat (first | (with_reducible exact HR312_0.out) | (with_reducible refine Kd.C_alloc ?_ _) | (with_reducible refine Kd.C_drewN ?_ _) | (with_reducible refine Kd.C_drew ?_) | exact HR312_0.out)) 1 p314 q314; obtain rfl : ad313 = ad314 := (by injection e314)
     (try simp only [show (1 : Int).toNat = 1 from rfl, Nat.reduceMul, Nat.reduceEqDiff, Go.Addr.add, ↓reduceIte] at hx314_0)
     have qi314 : (1 < (rd_L6 t303 x7_1).length) = True := eq_true (by omega)
     (try rw [show ((1 : Int)).toNat = 1 from rfl] at hx314_0)
     replace p314 := eq_true p314; replace q314 := eq_true q314; have p315 : 0 ≤ (2 : Int) := (by omega); have q315 : 2 < ((rd_L6 t303 x7_1).length : Int) := zD; obtain ⟨ad315, e315, hx315_0⟩ := Kd.at_int (by repeat (first | (with_reducible exact HR312_0.out) | (with_reducible refine Kd.C_alloc ?_ _) | (with_reducible refine Kd.C_drewN ?_ _) | (with_reducible refine Kd.C_drew ?_) | exact HR312_0.out)) 2 p315 q315; obtain rfl : ad313 = ad315 := (by injection e315)
     (try simp only [show (2 : Int).toNat = 2 from rfl, Nat.reduceMul, Nat.reduceEqDiff, Go.Addr.add, ↓reduceIte] at hx315_0)
     have qi315 : (2 < (rd_L6 t303 x7_1).length) = True := eq_true (by omega)
     (try rw [show ((2 : Int)).toNat = 2 from rfl] at hx315_0)
     replace p315 := eq_true p315; replace q315 := eq_true q315; have p316 : 0 ≤ (3 : Int) := (by omega); have q316 : 3 < ((rd_L6 t303 x7_1).length : Int) := zD; obtain ⟨ad316, e316, hx316_0⟩ := Kd.at_int (by repeat (first | (with_reducible exact HR312_0.out) | (with_reducible refine Kd.C_alloc ?_ _) | (with_reducible refine Kd.C_drewN ?_ _) | (with_reducible refine Kd.C_drew ?_) | exact HR312_0.out)) 3 p316 q316; obtain rfl : ad313 = ad316 := (by injection e316)
     (try simp only [show (3 : Int).toNat = 3 from rfl, Nat.reduceMul, Nat.reduceEqDiff, Go.Addr.add, ↓reduceIte] at hx316_0)
     have qi316 : (3 < (rd_L6 t303 x7_1).length) = True := eq_true (by omega)
     (try rw [show ((3 : Int)).toNat = 3 from rfl] at hx316_0)
     replace p316 := eq_true p316; replace q316 := eq_true q316; have p317 : 0 ≤ (4 : Int) := (by omega); have q317 : 4 < ((rd_L6 t303 x7_1).length : Int) := zD; obtain ⟨ad317, e317, hx317_0⟩ := Kd.at_int (by repeat (first | (with_reducible exact HR312_0.out) | (with_reducible refine Kd.C_alloc ?_ _) | (with_reducible refine Kd.C_drewN ?_ _) | (with_reducible refine Kd.C_drew ?_) | exact HR312_0.out)) 4 p317 q317; obtain rfl : ad313 = ad317 := (by injection e317)
     (try simp only [show (4 : Int).toNat = 4 from rfl, Nat.reduceMul, Nat.reduceEqDiff, Go.Addr.add, ↓reduceIte] at hx317_0)
     have qi317 : (4 < (rd_L6 t303 x7_1).length) = True := eq_true (by omega)
     (try rw [show ((4 : Int)).toNat = 4 from rfl] at hx317_0)
     replace p317 := eq_true p317; replace q317 := eq_true q317
     refine start_ (n := 22) (S := fun w' => w'.cell? ⟨gb311, 0, none⟩ = some (.int .i64 (rd (rd_L6 t303 0) 0)) ∧ w'.cell? ⟨gb311, 1, none⟩ = some (.int .i64 (rd (rd_L6 t303 0) 1)) ∧ w'.cell? ⟨gb311, 2, none⟩ = some (u312002) ∧ w'.cell? ad313 = some (.int .i64 (rd (rd_L6 t303 x7_1) 0)) ∧ w'.cell? ⟨ad313.block, ad313.off + 1, none⟩ = some (.int .i64 (rd (rd_L6 t303 x7_1) 1)) ∧ w'.cell? ⟨ad313.block, ad313.off + 2, none⟩ = some (.int .i64 (rd (rd_L6 t303 x7_1) 2)) ∧ w'.cell? ⟨ad313.block, ad313.off + 3, none⟩ = some (.int .i64 (rd (rd_L6 t303 x7_1) 3)) ∧ w'.cell? ⟨ad313.block, ad313.off + 4, none⟩ = some (.int .i64 (rd (rd_L6 t303 x7_1) 4))) (ds := [19, 21]) (zo 22) (by kernel_rfl) rfl rfl ⟨(bkc BK311.out 0).trans rfl, (bkc BK311.out 1).trans rfl, (bkc BK311.out 2).trans rfl, hx313_0, hx314_0, hx315_0, hx316_0, hx317_0⟩ (fun hHeld => ?_); refine with_tabW aR_Read.tab9 aR_Read.bits9 (fun HT_ HW_ => ?_)
     generalize wr.drew = w23 at HO_4 HO_312002 HL312_0 BK302 BK311 HR312_0 HB hx313_0 hx314_0 hx315_0 hx316_0 hx317_0 hHeld ⊢
     refine zp 0 41 (zm 22 1) ?_
     refine zp 2 43 (zm 22 5) ?_
     refine zp 3 44 (zm 22 13) ?_
     refine zp 5 46 (zm 22 45) ?_
     refine zp 6 47 (zm 22 109) ?_
     refine zp 8 49 (zm 22 365) ?_
     refine zp 9 50 (zm 22 877) ?_
     refine zp 11 52 (zm 22 2925) ?_
     refine zp 12 53 (zm 22 7021) ?_
     refine zp 14 55 (zm 22 23405) ?_
     refine zp 15 56 (zm 22 56173) ?_
     refine take_ (i := 1) (N := some 42) (v := ?_) (a' := ?_) (zm 22 56175) rfl rfl (take_ofW HT_.out HW_.out (by kernel_rfl)) (fun _ _ _ h => h) (Or.inl ⟨by rfl, ?_⟩) hHeld ?_ ?_
     rotate_left
     ·
      rintro w' ⟨s0, s1, s2, s3, s4, s5, s6, s7⟩
      go_simp
      with_reducible rfl
     rotate_left
     · simp only [Act.put, z1, z2, z3, i64_w, i32_w]; rfl
     refine take_ (i := 4) (N := some 45) (v := ?_) (a' := ?_) (zm 22 56191) rfl rfl (take_ofW HT_.out HW_.out (by kernel_rfl)) (fun _ _ _ h => h) (Or.inl ⟨by rfl, ?_⟩) hHeld ?_ ?_
     rotate_left
     ·
      rintro w' ⟨s0, s1, s2, s3, s4, s5, s6, s7⟩
      go_simp
      with_reducible rfl
     rotate_left
     · simp only [Act.put, z1, z2, z3, i64_w, i32_w]; rfl
     refine take_ (i := 7) (N := some 48) (v := ?_) (a' := ?_) (zm 22 56319) rfl rfl (take_ofW HT_.out HW_.out (by kernel_rfl)) (fun _ _ _ h => h) (Or.inl ⟨by rfl, ?_⟩) hHeld ?_ ?_
     rotate_left
     ·
      rintro w' ⟨s0, s1, s2, s3, s4, s5, s6, s7⟩
      go_simp
      with_reducible rfl
     rotate_left
     · simp only [Act.put, z1, z2, z3, i64_w, i32_w]; rfl
     refine take_ (i := 10) (N := some 51) (v := ?_) (a' := ?_) (zm 22 57343) rfl rfl (take_ofW HT_.out HW_.out (by kernel_rfl)) (fun _ _ _ h => h) (Or.inl ⟨by rfl, ?_⟩) hHeld ?_ ?_
     rotate_left
     ·
      rintro w' ⟨s0, s1, s2, s3, s4, s5, s6, s7⟩
      go_simp
      with_reducible rfl
     rotate_left
     · simp only [Act.put, z1, z2, z3, i64_w, i32_w]; rfl
     refine take_ (i := 13) (N := some 54) (v := ?_) (a' := ?_) (zm 22 65535) rfl rfl (take_ofW HT_.out HW_.out (by kernel_rfl)) (fun _ _ _ h => h) (Or.inl ⟨by rfl, ?_⟩) hHeld ?_ ?_
     rotate_left
     ·
      rintro w' ⟨s0, s1, s2, s3, s4, s5, s6, s7⟩
      go_simp
      with_reducible rfl
     rotate_left
     · simp only [Act.put, z1, z2, z3, i64_w, i32_w]; rfl
     refine take_ (i := 16) (N := some 57) (v := ?_) (a' := ?_) (zm 22 131071) rfl rfl (take_ofW HT_.out HW_.out (by kernel_rfl)) (fun _ _ _ h => h) (Or.inl ⟨by rfl, ?_⟩) hHeld ?_ ?_
     rotate_left
     ·
      rintro w' ⟨s0, s1, s2, s3, s4, s5, s6, s7⟩
      go_simp
      with_reducible rfl
     rotate_left
     · simp only [Act.put, z1, z2, z3, i64_w, i32_w]; rfl
     refine zp 17 58 (zm 22 262143) ?_
     refine one_ (i := 18) (N := some 59) (zm 22 524287) rfl rfl (one_of HT_.out (by kernel_rfl)) (by decide) (fun K hK => ?_)
     refine value_ (w1 := ?_) (v := ?_) (by rfl) rfl ?_ ?_
     rotate_left 2
     ·
      go_simp
      constructor
      · rfl
      · rfl
     refine hK.out _ _ ⟨(bkc (blk_alloc BK311.out _) 0).trans rfl, (bkc (blk_alloc BK311.out _) 1).trans rfl, (bkc (blk_alloc BK311.out _) 2).trans rfl, (World.cell?_alloc_lt _ _ _ (World.block_lt_of_cell? _ _ (hHeld.2.2.2.1))).trans (hHeld.2.2.2.1), (World.cell?_alloc_lt _ _ _ (World.block_lt_of_cell? _ _ (hHeld.2.2.2.2.1))).trans (hHeld.2.2.2.2.1), (World.cell?_alloc_lt _ _ _ (World.block_lt_of_cell? _ _ (hHeld.2.2.2.2.2.1))).trans (hHeld.2.2.2.2.2.1), (World.cell?_alloc_lt _ _ _ (World.block_lt_of_cell? _ _ (hHeld.2.2.2.2.2.2.1))).trans (hHeld.2.2.2.2.2.2.1), (World.cell?_alloc_lt _ _ _ (World.block_lt_of_cell? _ _ (hHeld.2.2.2.2.2.2.2))).trans (hHeld.2.2.2.2.2.2.2)⟩ (fun hHeld => ?_)
     clear hK K
     refine norm_ (a' := ?_) ?_ ?_
     rotate_left
     ·
      show Act.put _ (some 59) _ = _
      simp only [Act.put, z1, z2, z3, i64_w, i32_w]
      rfl
     refine last_ (i := 19) (N := some 60) (zm 22 1048575) rfl rfl (one_of HT_.out (by kernel_rfl)) (by decide) (fun K hK => ?_)
     refine Kd.R_append_step k47 (w0 := w) w.heap.size (by rfl) (.tmp 42) (.tmp 59) 25 47 (.agg #[(.int .i64 0), (.int .i64 0), (.int .i64 0), (.int .i64 0), (.int .i64 0)]) 40 rfl Tryz.underlying25 info47 rfl (by decide) (by omega) u312002 x312002_1 (⟨rd (rd_L6 t303 x7_1) 0, rd (rd_L6 t303 x7_1) 1, rd (rd_L6 t303 x7_1) 2, rd (rd_L6 t303 x7_1) 3, rd (rd_L6 t303 x7_1) 4⟩ : S47) [.int .i64 (rd (rd_L6 t303 x7_1) 0), .int .i64 (rd (rd_L6 t303 x7_1) 1), .int .i64 (rd (rd_L6 t303 x7_1) 2), .int .i64 (rd (rd_L6 t303 x7_1) 3), .int .i64 (rd (rd_L6 t303 x7_1) 4)] (fun _ => True) (fun _ => False) rfl rfl ?aP (fun _ hk => hk.elim) ?aF ?aO ?aB ?aS ?aL ?_
     (case aP => exact k47_mkM _ _ _ (⟨rd (rd_L6 t303 x7_1) 0, rd (rd_L6 t303 x7_1) 1, rd (rd_L6 t303 x7_1) 2, rd (rd_L6 t303 x7_1) 3, rd (rd_L6 t303 x7_1) 4⟩ : S47))
     (case aB => exact zB)
     (case aF => exact (fun _ _ => trivial))
     (case aO => exact (zR HO_312002))
     (case aS => exact (bsz zB))
     (case aL => have := LMc22.out; omega)
     intro v319 w24 ho hb hg hat
     rw [← Ny318.out] at ho
     replace HO_4 := Zs.mk (Kd.S_over' (zS HO_4) (Kd.Rtd (zR HO_312002)) (by decide) hg); replace BK302 := Zs.mk (blk_grown (g := gb302) (o := .cells #[.int .i64 0, .int .i64 0, .slice none 0 0] 36 (0, 0)) (zK BK302) hg (Kd.R_ne HO_312002.out BK302.out (by decide))); replace BK311 := Zs.mk (blk_grown (g := gb311) (o := .cells #[.int .i64 (rd (rd_L6 t303 0) 0), .int .i64 (rd (rd_L6 t303 0) 1), u312002] 36 (0, 0)) (zK BK311) hg (Kd.R_ne HO_312002.out BK311.out (by decide))); replace HL312_0 := Zs.mk (Kd.R_over' (by (with_reducible repeat (first | apply Kd.Ral | apply Kd.Rdn | apply Kd.Rdw)); exact HL312_0.out) (Kd.Rtd (zR HO_312002)) (by decide) hg); replace HB := Zs.mk (hb); have HO320 := Zs.mk (ho); clear HO_312002; clear ho hb hg hat; obtain ⟨Ao25, co25, eo25⟩ := Kd.R_slice HO320.out
     (first | subst eo25 | (injection eo25 with f1_ f2_ f3_; have f4_ := f1_.symm; have f5_ := f3_.symm; clear f1_ f2_ f3_; subst f4_; subst f5_))
     refine hK.out _ _ ?_
     clear hK K
     refine norm_ (a' := ?_) ?_ ?_
     rotate_left
     ·
      show Act.put _ (some 60) _ = _
      simp only [Act.put, z1, z2, z3, i64_w, i32_w]
      rfl
     refine zp 20 61 (zm 22 2097151) ?_
     refine last_ (i := 21) (N := none) (zm 22 4194303) rfl rfl (one_of HT_.out (by kernel_rfl)) (by decide) (fun K hK => ?_)
     have hs26 : w24.cell? ⟨gb311, 2, none⟩ = some (u312002) := (bkc BK311.out 2).trans rfl; have hfs26 := bkf BK311.out 2; have hns26_0 := NB302_311.out; have hms26_0 := NB311_302.out
     refine skip_ (w1 := ?_) (by rfl) rfl ?_ ?_
     rotate_left
     · go_simp; rfl
     refine hK.out _ _ ?_
     clear hK K
     refine done_ (done_of HT_.out (by kernel_rfl)) ?_
     try go_wp2
     go_roundg k1
     case measure => have := HK1.out; omega
     case rel => exact ⟨(wrap64 (x7_1 + 1)), (y318), (.slice Ao25 y318.length co25), zs, H', ⟨by have := HK1.out; omega⟩, ⟨by (with_reducible repeat (first | apply Kd.S_alloc | apply Kd.S_drewN | apply Kd.S_drew)); exact Kd.S_mono (Kd.S_far (p := ⟨gb311, 2, none⟩) (Kd.S_types HO_4.out BK311.out (by decide)) (fun _ hk => hk.2) (.slice Ao25 y318.length co25)) (fun _ hk => trivial)⟩, ⟨by (with_reducible repeat (first | apply Kd.Ral | apply Kd.Rdn | apply Kd.Rdw)); exact Kd.R_mono (Kd.R_far (p := ⟨gb311, 2, none⟩) (Kd.Rty HO320.out BK311.out (by decide)) (fun _ hk => hk.2) (.slice Ao25 y318.length co25)) (fun _ hk => trivial)⟩, ⟨zF BK302⟩, ⟨zY BK311⟩, ⟨zB⟩⟩
    ·
     rw [if_neg c15] at H
     have c15b0 := decide_eq_false c15; clear c15; obtain ⟨⟨t321, t322⟩, A27, H⟩ := zb H; (try dsimp only [-Int.reduceToNat] at H)
     by_cases c28 : t322 = 0
     ·
      rw [if_pos c28] at H
      obtain ⟨c28b0, c28b1⟩ := zeq c28; clear c28
      by_cases c29 : t321.toList = a0.toList
      ·
       rw [if_pos c29] at H
       obtain ⟨c29b0, c29b1⟩ := zeq c29; clear c29
       simp only [Option.some.injEq, Prod.mk.injEq] at H
       obtain ⟨rfl, rfl, rfl, rfl⟩ := H; have hnb30 := NB311_302.out; have hnc30 := NB302_311.out; obtain ⟨hcz31_0, hcz31_1, hcz31_2⟩ := zC3 BK311; obtain ⟨hfz31_0, hfz31_1, hfz31_2⟩ := zZ3 BK311; obtain ⟨Ao32, co32, eo32⟩ := Kd.R_slice HO_312002.out; subst eo32
       go_wp2_with (first | ((with_reducible refine gkc (f := 13) rfl ?_); refine zgo (some 64) Tryz.func13 #[.agg #[.int .i64 (rd (rd_L6 t303 0) 0), .int .i64 (rd (rd_L6 t303 0) 1), .slice Ao32 x312002_1.length co32]] ?_; (with_reducible refine (aR_Write.calls k1 (rd (rd_L6 t303 0) 0) (rd (rd_L6 t303 0) 1) _ _ x312002_1 t321 t322 _ ?side1 ?side2 A27.out).mono ?_); (case side1 => exact zQ HO_312002); (case side2 => exact (Kd.R_reads' HO_312002.out).2.1); rintro e w33 ⟨rfl, hb⟩; refine ⟨_, rfl, ?_⟩; replace HO_4 := Zs.mk (Kd.S_below (zS HO_4) hb); replace HO_312002 := zRb HO_312002 hb; replace BK302 := zKb BK302 hb; replace BK311 := zKb BK311 hb; replace HB := zBs hb; obtain ⟨hcz34_0, hcz34_1, hcz34_2⟩ := zC3 BK311; obtain ⟨hfz34_0, hfz34_1, hfz34_2⟩ := zZ3 BK311; obtain ⟨hcz35_0, hcz35_1, hcz35_2⟩ := zC3 BK302; obtain ⟨hfz35_0, hfz35_1, hfz35_2⟩ := zZ3 BK302))
       refine bodyPost_ret (results_ct rfl _ _ gb302 36 #[.int .i64 (rd (rd_L6 t303 0) 0), .int .i64 (rd (rd_L6 t303 0) 1), .slice Ao32 x312002_1.length co32] (0, 0) _ rfl (zY BK302) Tryz.underlying36 rfl (by kernel_rfl)) rfl ?_
       exact ⟨_, zE, by (with_reducible repeat (first | apply Kd.Ral | apply Kd.Rdn | apply Kd.Rdw)); exact Kd.R_mono (Kd.R_far (p := ⟨gb302, 2, none⟩) (Kd.R_far (p := ⟨gb302, 1, none⟩) (Kd.R_far (p := ⟨gb302, 0, none⟩) (Kd.Rty HO_312002.out BK302.out (by decide)) (fun _ hk => hk.2) (.int .i64 (rd (rd_L6 t303 0) 0))) (fun _ hk => hk.2) (.int .i64 (rd (rd_L6 t303 0) 1))) (fun _ hk => hk.2) (.slice Ao32 x312002_1.length co32)) (fun _ hk => trivial), zB⟩
      ·
       rw [if_neg c29] at H
       obtain ⟨c29b0, c29b1⟩ := zne c29
       simp only [Option.some.injEq, Prod.mk.injEq] at H
       obtain ⟨rfl, rfl, rfl, rfl⟩ := H; have hnb36 := NB311_302.out; have hnc36 := NB302_311.out; obtain ⟨hcz37_0, hcz37_1, hcz37_2⟩ := zC3 BK311; obtain ⟨hfz37_0, hfz37_1, hfz37_2⟩ := zZ3 BK311; obtain ⟨Ao38, co38, eo38⟩ := Kd.R_slice HO_312002.out; subst eo38
       go_wp2_with (first | ((with_reducible refine gkc (f := 13) rfl ?_); refine zgo (some 64) Tryz.func13 #[.agg #[.int .i64 (rd (rd_L6 t303 0) 0), .int .i64 (rd (rd_L6 t303 0) 1), .slice Ao38 x312002_1.length co38]] ?_; (with_reducible refine (aR_Write.calls k1 (rd (rd_L6 t303 0) 0) (rd (rd_L6 t303 0) 1) _ _ x312002_1 t321 t322 _ ?side1 ?side2 A27.out).mono ?_); (case side1 => exact zQ HO_312002); (case side2 => exact (Kd.R_reads' HO_312002.out).2.1); rintro e w39 ⟨rfl, hb⟩; refine ⟨_, rfl, ?_⟩; replace HO_4 := Zs.mk (Kd.S_below (zS HO_4) hb); replace HO_312002 := zRb HO_312002 hb; replace BK302 := zKb BK302 hb; replace BK311 := zKb BK311 hb; replace HB := zBs hb; obtain ⟨hcz40_0, hcz40_1, hcz40_2⟩ := zC3 BK302; obtain ⟨hfz40_0, hfz40_1, hfz40_2⟩ := zZ3 BK302))
       refine bodyPost_ret (results_ct rfl _ _ gb302 36 #[.int .i64 0, .int .i64 0, .slice none 0 0] (0, 0) _ rfl (zY BK302) Tryz.underlying36 rfl (by kernel_rfl)) rfl ?_
       exact ⟨_, zE, by first | exact Kd.R_nil _ _ _ _ _ | exact Kd.N_nil _ _ _ _ _ | exact Kd.V_nil _ _ _ _ _ | exact Kd.Q_nil _ _ _ _ _ | exact Kd.S_nil _ _ _ _ _, zB⟩
     ·
      rw [if_neg c28] at H
      obtain ⟨c28b0, c28b1⟩ := zne c28
      simp only [Option.some.injEq, Prod.mk.injEq] at H
      obtain ⟨rfl, rfl, rfl, rfl⟩ := H; have hnb41 := NB311_302.out; have hnc41 := NB302_311.out; obtain ⟨hcz42_0, hcz42_1, hcz42_2⟩ := zC3 BK311; obtain ⟨hfz42_0, hfz42_1, hfz42_2⟩ := zZ3 BK311; obtain ⟨Ao43, co43, eo43⟩ := Kd.R_slice HO_312002.out; subst eo43
      go_wp2_with (first | ((with_reducible refine gkc (f := 13) rfl ?_); refine zgo (some 64) Tryz.func13 #[.agg #[.int .i64 (rd (rd_L6 t303 0) 0), .int .i64 (rd (rd_L6 t303 0) 1), .slice Ao43 x312002_1.length co43]] ?_; (with_reducible refine (aR_Write.calls k1 (rd (rd_L6 t303 0) 0) (rd (rd_L6 t303 0) 1) _ _ x312002_1 t321 t322 _ ?side1 ?side2 A27.out).mono ?_); (case side1 => exact zQ HO_312002); (case side2 => exact (Kd.R_reads' HO_312002.out).2.1); rintro e w44 ⟨rfl, hb⟩; refine ⟨_, rfl, ?_⟩; replace HO_4 := Zs.mk (Kd.S_below (zS HO_4) hb); replace HO_312002 := zRb HO_312002 hb; replace BK302 := zKb BK302 hb; replace BK311 := zKb BK311 hb; replace HB := zBs hb; obtain ⟨hcz45_0, hcz45_1, hcz45_2⟩ := zC3 BK302; obtain ⟨hfz45_0, hfz45_1, hfz45_2⟩ := zZ3 BK302))
      refine bodyPost_ret (results_ct rfl _ _ gb302 36 #[.int .i64 0, .int .i64 0, .slice none 0 0] (0, 0) _ rfl (zY BK302) Tryz.underlying36 rfl (by kernel_rfl)) rfl ?_
      exact ⟨_, zE, by first | exact Kd.R_nil _ _ _ _ _ | exact Kd.N_nil _ _ _ _ _ | exact Kd.V_nil _ _ _ _ _ | exact Kd.Q_nil _ _ _ _ _ | exact Kd.S_nil _ _ _ _ _, zB⟩
 ·
  rw [if_neg c3] at H
  obtain ⟨c3b0, c3b1⟩ := zne c3
  simp only [Option.some.injEq, Prod.mk.injEq] at H
  obtain ⟨rfl, rfl, rfl, rfl⟩ := H
  go_enter Tryz.func32, Tryz.ntmps32
  go_wp2_with (first | ((with_reducible refine gkd (N := 2) rfl ?_); refine bxe ?hg (N := 2) ?hd (cs := #[.int .i64 0, .int .i64 0, .slice none 0 0]) (t := 36) ?hr ?_; (case hd => rfl); (case hg => rfl); (case hr => first | (go_simp; done) | (go_simp; rfl)); intro gb302 hg w46 hbox hb; have BK302 := Zs.mk (hbox); have GW302 := zG (w := w) hg; have GE302 := zG (w := w) hg; replace HB := zBs hb; clear hb hbox hg) | ((with_reducible refine gkc (f := 57) rfl ?_); refine zgo (some 13) Tryz.func57 #[.string a0, .string (⟨#[80, 65, 89]⟩ : ByteArray), .int .i64 4, .string (⟨#[111, 114, 100, 101, 114]⟩ : ByteArray), .int .i64 5] ?_; (with_reducible refine (aR_parse.calls k a0 (⟨#[80, 65, 89]⟩ : ByteArray) 4 (⟨#[111, 114, 100, 101, 114]⟩ : ByteArray) 5 t303 t304 _ A2.out).mono ?_); rintro e w47 ⟨v305, rfl, ho0, hb⟩; refine ⟨_, rfl, ?_⟩; have HO306 := Zs.mk (Kd.S_lower ho0 (bsz zB)); replace BK302 := zKb BK302 hb; replace HB := zBs hb; obtain ⟨hcz48_0, hcz48_1, hcz48_2⟩ := zC3 BK302; obtain ⟨hfz48_0, hfz48_1, hfz48_2⟩ := zZ3 BK302))
  refine bodyPost_ret (results_ct rfl _ _ gb302 36 #[.int .i64 0, .int .i64 0, .slice none 0 0] (0, 0) _ rfl (zY BK302) Tryz.underlying36 rfl (by kernel_rfl)) rfl ?_
  exact ⟨_, zE, by first | exact Kd.R_nil _ _ _ _ _ | exact Kd.N_nil _ _ _ _ _ | exact Kd.V_nil _ _ _ _ _ | exact Kd.Q_nil _ _ _ _ _ | exact Kd.S_nil _ _ _ _ _, zB⟩
end
section
def aR_ReadAnswer.l0 : Nat → ByteArray → List (List Int) → Int → Int → Int → List (S78) → Option (Int × Int × (List (S78)) × Int)
 | 0, _, _, _, _, _, _ => none
 | k + 1, x0, x4, x7, x350000, x350001, x350002 => if x7 < (x4.length : Int) then (if 0 ≤ x7 then (if 0 < ((rd_L6 x4 x7).length : Int) then (if 1 < ((rd_L6 x4 x7).length : Int) then (if x350002.length < 8796093022208 then (aR_ReadAnswer.l0 k x0 x4 (wrap64 (x7 + 1)) x350000 x350001 (x350002 ++ [(⟨rd (rd_L6 x4 x7) 0, rd (rd_L6 x4 x7) 1⟩ : S78)])) else (none)) else (none)) else (none)) else (none)) else ((aR_WriteAnswer.f k x350000 x350001 x350002).bind fun bt357 => (if bt357.2 = 0 then (if bt357.1.toList = x0.toList then (some (x350000, x350001, x350002, 0)) else (some (0, 0, ([] : List (S78)), 362))) else (some (0, 0, ([] : List (S78)), 362))))
def aR_ReadAnswer.f (k : Nat) (a0 : ByteArray) : Option (Int × Int × (List (S78)) × Int) := (aR_parse.f k a0 (⟨#[66, 65, 67, 75]⟩ : ByteArray) 3 (⟨#[114, 101, 116, 117, 114, 110]⟩ : ByteArray) 2).bind fun bt341 => (if bt341.2 = 0 then (if 0 < (bt341.1.length : Int) then (if 0 < ((rd_L6 bt341.1 0).length : Int) then (if 1 < ((rd_L6 bt341.1 0).length : Int) then (aR_ReadAnswer.l0 k a0 bt341.1 1 (rd (rd_L6 bt341.1 0) 0) (rd (rd_L6 bt341.1 0) 1) ([] : List (S78))) else (none)) else (none)) else (none)) else (some (0, 0, ([] : List (S78)), bt341.2)))
def aR_ReadAnswer.T4 : Bool × List (List Nat × List Nat) := (true, [([], []), ([0], [0]), ([1], [1]), ([2], [2]), ([3], [3]), ([], []), ([5], [5]), ([6], [6]), ([7], [7]), ([8], [8]), ([4, 9], [4, 9]), ([], []), ([11, 10, 0, 1, 2, 3, 4, 5, 6, 7, 8, 9, 10, 11], [10, 11])])
def aR_ReadAnswer.B4 : List Nat := [0, 1, 3, 7, 15, 0, 32, 96, 224, 480, 1023, 0, 4095]
theorem aR_ReadAnswer.tab4 : rtab .any (opsOf Tryz.f33 4) = aR_ReadAnswer.T4 := by kernel_rfl
theorem aR_ReadAnswer.bits4 : waitsOk aR_ReadAnswer.T4.2 aR_ReadAnswer.B4 = true := by kernel_rfl
def aR_ReadAnswer.T8 : Bool × List (List Nat × List Nat) := (true, [([], []), ([0], [0]), ([], []), ([], []), ([2, 3], [2, 3]), ([4], [4]), ([5], [5]), ([6], [6]), ([], []), ([], []), ([8, 9], [8, 9]), ([10], [10]), ([11], [11]), ([12], [12]), ([7, 13], [7, 13]), ([14], [14]), ([1, 15], [1, 15]), ([0, 1, 2, 3, 4, 5, 6, 7, 8, 9, 10, 11, 12, 13, 14, 15, 16], []), ([17, 16, 16, 0, 1, 2, 3, 4, 5, 6, 7, 8, 9, 10, 11, 12, 13, 14, 15, 16], [16, 17])])
def aR_ReadAnswer.B8 : List Nat := [0, 1, 0, 0, 12, 28, 60, 124, 0, 0, 768, 1792, 3840, 7936, 16380, 32764, 65535, 131071, 262143]
theorem aR_ReadAnswer.tab8 : rtab .any (opsOf Tryz.f33 8) = aR_ReadAnswer.T8 := by kernel_rfl
theorem aR_ReadAnswer.bits8 : waitsOk aR_ReadAnswer.T8.2 aR_ReadAnswer.B8 = true := by kernel_rfl
set_option maxHeartbeats 8000000 in
set_option maxRecDepth 100000 in
theorem aR_ReadAnswer.calls (k : Nat) (a0 : ByteArray) (r1 : Int) (r2 : Int) (r3 : List (S78)) (r4 : Int) (w : World) (h : aR_ReadAnswer.f k a0 = some (r1, r2, r3, r4)) :
  Calls Tryz.prog 33 #[.string a0] w fun e w' => ∃ v2_ : Value, e = .returned (.tuple #[.agg #[.int .i64 r1, .int .i64 r2, v2_], .int .i64 r4]) ∧ Kd.R k78 78 w' w.heap.size (fun _ => True) v2_ r3 ∧ Below w.heap.size w w' := by
 have hu41 := Tryz.underlying41; have hu78 := Tryz.underlying78; have HB := Zs.mk (Below.refl w.heap.size w); have H : ((aR_parse.f k a0 (⟨#[66, 65, 67, 75]⟩ : ByteArray) 3 (⟨#[114, 101, 116, 117, 114, 110]⟩ : ByteArray) 2).bind fun bt341 => (if bt341.2 = 0 then (if 0 < (bt341.1.length : Int) then (if 0 < ((rd_L6 bt341.1 0).length : Int) then (if 1 < ((rd_L6 bt341.1 0).length : Int) then (aR_ReadAnswer.l0 k a0 bt341.1 1 (rd (rd_L6 bt341.1 0) 0) (rd (rd_L6 bt341.1 0) 1) ([] : List (S78))) else (none)) else (none)) else (none)) else (some (0, 0, ([] : List (S78)), bt341.2)))) = some (r1, r2, r3, r4) := h; clear h; obtain ⟨⟨t341, t342⟩, A2, H⟩ := zb H; (try dsimp only [-Int.reduceToNat] at H)
 by_cases c3 : t342 = 0
 ·
  rw [if_pos c3] at H
  obtain ⟨c3b0, c3b1⟩ := zeq c3; clear c3
  have c4 := zc H
  rw [if_pos c4] at H
  have c4b0 := decide_eq_true c4; have c4b1 : decide (0 < t341.length) = true := decide_eq_true (by omega); clear c4
  have c5 := zc H
  rw [if_pos c5] at H
  have c5b0 := decide_eq_true c5; have c5b1 : decide (0 < (rd_L6 t341 0).length) = true := decide_eq_true (by omega); clear c5
  have c6 := zc H
  rw [if_pos c6] at H
  have c6b0 := decide_eq_true c6; have c6b1 : decide (1 < (rd_L6 t341 0).length) = true := decide_eq_true (by omega); clear c6; have H' := Zs.mk H; clear H
  go_enter Tryz.func33, Tryz.ntmps33
  try go_wp2_with (first | ((with_reducible refine gkd (N := 2) rfl ?_); refine bxe ?hg (N := 2) ?hd (cs := #[.int .i64 0, .int .i64 0, .slice none 0 0]) (t := 41) ?hr ?_; (case hd => rfl); (case hg => rfl); (case hr => first | (go_simp; done) | (go_simp; rfl)); intro gb340 hg w7 hbox hb; have BK340 := Zs.mk (hbox); have GW340 := zG (w := w) hg; have GE340 := zG (w := w) hg; replace HB := zBs hb; clear hb hbox hg) | ((with_reducible refine gkc (f := 57) rfl ?_); refine zgo (some 12) Tryz.func57 #[.string a0, .string (⟨#[66, 65, 67, 75]⟩ : ByteArray), .int .i64 3, .string (⟨#[114, 101, 116, 117, 114, 110]⟩ : ByteArray), .int .i64 2] ?_; (with_reducible refine (aR_parse.calls k a0 (⟨#[66, 65, 67, 75]⟩ : ByteArray) 3 (⟨#[114, 101, 116, 117, 114, 110]⟩ : ByteArray) 2 t341 t342 _ A2.out).mono ?_); rintro e w8 ⟨v343, rfl, ho0, hb⟩; refine ⟨_, rfl, ?_⟩; have HO344 := Zs.mk (Kd.S_lower ho0 (bsz zB)); replace BK340 := zKb BK340 hb; replace HB := zBs hb))
  replace HO344 := Zs.mk (Kd.S_drew HO344.out); replace BK340 := Zs.mk (blk_drew BK340.out); replace HB := Zs.mk (below_drew1 HB.out); obtain ⟨Ao10, co10, eo10⟩ := Kd.S_slice HO344.out
  (first | subst eo10 | (injection eo10 with f1_ f2_ f3_; have f4_ := f1_.symm; have f5_ := f3_.symm; clear f1_ f2_ f3_; subst f4_; subst f5_))
  have p345 : 0 ≤ (0 : Int) := (by omega); have q345 : 0 < (t341.length : Int) := zD; obtain ⟨ad345, A345_0, c345_0, e345, hx345_0, hl345_0, hi345_0⟩ := at_L6 (Kd.S_reads' HO344.out).2.2 0 p345 q345
  cases e345
  obtain ⟨ce345, hce345, hMe345, hcc345⟩ := Kd.S_get HO344.out [] 0 p345 (by first | exact q345 | exact zD | (have e_ := (Kd.S_reads' HO344.out).1; omega))
  obtain ⟨ve345_0, rfl, ge345_0⟩ := hMe345; have hv345_0 := hcc345 0 _ rfl
  rw [Nat.add_zero, show ((Kd.slice 3 (Kd.int .i64))).sz = 1 from rfl, Nat.mul_one] at hv345_0
  replace hv345_0 := Option.some.inj (hv345_0.symm.trans hx345_0)
  rw [hv345_0] at ge345_0
  have HL345_0 := Zs.mk (show Kd.R (Kd.int .i64) 3 _ _ _ _ (rd_L6 t341 0) from ge345_0); clear hv345_0 ge345_0; clear hcc345 hce345; have qi345 : (0 < t341.length) = True := eq_true (by omega)
  (try rw [show ((0 : Int)).toNat = 0 from rfl] at hx345_0)
  (try rw [Addr.add_zero'] at hx345_0)
  have HR345_0 := Zs.mk hi345_0; have HC345_0 := Zs.mk hl345_0; clear hi345_0 hl345_0; replace p345 := eq_true p345; replace q345 := eq_true q345; have p346 : 0 ≤ (0 : Int) := (by omega); have q346 : 0 < ((rd_L6 t341 0).length : Int) := zD; obtain ⟨ad346, e346, hx346_0⟩ := Kd.at_int (by repeat (first | (with_reducible exact HR345_0.out) | (with_reducible refine Kd.C_alloc ?_ _) | (with_reducible refine Kd.C_drewN ?_ _) | (with_reducible refine Kd.C_drew ?_) | exact HR345_0.out)) 0 p346 q346
  cases e346
  have qi346 : (0 < (rd_L6 t341 0).length) = True := eq_true (by omega)
  (try rw [show ((0 : Int)).toNat = 0 from rfl] at hx346_0)
  (try rw [Addr.add_zero'] at hx346_0)
  replace p346 := eq_true p346; replace q346 := eq_true q346; have p347 : 0 ≤ (0 : Int) := (by omega); have q347 : 0 < (t341.length : Int) := zD; obtain ⟨ad347, A347_0, c347_0, e347, hx347_0, hl347_0, hi347_0⟩ := at_L6 (Kd.S_reads' HO344.out).2.2 0 p347 q347; obtain rfl : ad345 = ad347 := (by injection e347); obtain ⟨ce347, hce347, hMe347, hcc347⟩ := Kd.S_get HO344.out [] 0 p347 (by first | exact q347 | exact zD | (have e_ := (Kd.S_reads' HO344.out).1; omega))
  obtain ⟨ve347_0, rfl, ge347_0⟩ := hMe347; have hv347_0 := hcc347 0 _ rfl
  rw [Nat.add_zero, show ((Kd.slice 3 (Kd.int .i64))).sz = 1 from rfl, Nat.mul_one] at hv347_0
  replace hv347_0 := Option.some.inj (hv347_0.symm.trans hx347_0)
  rw [hv347_0] at ge347_0
  have HL347_0 := Zs.mk (show Kd.R (Kd.int .i64) 3 _ _ _ _ (rd_L6 t341 0) from ge347_0); clear hv347_0 ge347_0; clear hcc347 hce347; have qi347 : (0 < t341.length) = True := eq_true (by omega)
  (try rw [show ((0 : Int)).toNat = 0 from rfl] at hx347_0)
  (try rw [Addr.add_zero'] at hx347_0)
  have HR347_0 := Zs.mk hi347_0; have HC347_0 := Zs.mk hl347_0; clear hi347_0 hl347_0; replace p347 := eq_true p347; replace q347 := eq_true q347; have ea_ := Option.some.inj (hx345_0.symm.trans hx347_0); injection ea_ with ea_ en_ ec_; subst ea_; subst ec_; clear en_; have p348 : 0 ≤ (1 : Int) := (by omega); have q348 : 1 < ((rd_L6 t341 0).length : Int) := zD; obtain ⟨ad348, e348, hx348_0⟩ := Kd.at_int (by repeat (first | (with_reducible exact HR347_0.out) | (with_reducible refine Kd.C_alloc ?_ _) | (with_reducible refine Kd.C_drewN ?_ _) | (with_reducible refine Kd.C_drew ?_) | exact HR347_0.out)) 1 p348 q348
  cases e348
  (try simp only [show (1 : Int).toNat = 1 from rfl, Nat.reduceMul, Nat.reduceEqDiff, Go.Addr.add, ↓reduceIte] at hx348_0)
  have qi348 : (1 < (rd_L6 t341 0).length) = True := eq_true (by omega)
  (try rw [show ((1 : Int)).toNat = 1 from rfl] at hx348_0)
  replace p348 := eq_true p348; replace q348 := eq_true q348
  refine start_ (n := 13) (S := fun w' => w'.cell? ad345 = some (.slice (some ad346) (rd_L6 t341 0).length c345_0) ∧ w'.cell? ad346 = some (.int .i64 (rd (rd_L6 t341 0) 0)) ∧ w'.cell? ad345 = some (.slice (some ad346) (rd_L6 t341 0).length c345_0) ∧ w'.cell? ⟨ad346.block, ad346.off + 1, none⟩ = some (.int .i64 (rd (rd_L6 t341 0) 1))) (ds := []) (zo 13) (by kernel_rfl) rfl rfl ⟨hx345_0, hx346_0, hx347_0, hx348_0⟩ (fun hHeld => ?_); refine with_tabW aR_ReadAnswer.tab4 aR_ReadAnswer.bits4 (fun HT_ HW_ => ?_)
  generalize w8.drew = w9 at HO344 BK340 HB HL345_0 HL347_0 HR345_0 HR347_0 hx345_0 hx346_0 hx347_0 hx348_0 hHeld ⊢
  refine zp 0 19 (zm 13 1) ?_
  refine zp 1 20 (zm 13 3) ?_
  refine zp 5 24 (zm 13 35) ?_
  refine zp 6 25 (zm 13 99) ?_
  refine take_ (i := 2) (N := some 21) (v := ?_) (a' := ?_) (zm 13 103) rfl rfl (take_ofW HT_.out HW_.out (by kernel_rfl)) (fun _ _ _ h => h) (Or.inl ⟨by rfl, ?_⟩) hHeld ?_ ?_
  rotate_left
  ·
   rintro w' ⟨s0, s1, s2, s3⟩
   go_simp
   with_reducible rfl
  rotate_left
  · simp only [Act.put, z1, z2, z3, i64_w, i32_w]; rfl
  refine zp 3 22 (zm 13 111) ?_
  refine take_ (i := 4) (N := some 23) (v := ?_) (a' := ?_) (zm 13 127) rfl rfl (take_ofW HT_.out HW_.out (by kernel_rfl)) (fun _ _ _ h => h) (Or.inl ⟨by rfl, ?_⟩) hHeld ?_ ?_
  rotate_left
  ·
   rintro w' ⟨s0, s1, s2, s3⟩
   go_simp
   with_reducible rfl
  rotate_left
  · simp only [Act.put, z1, z2, z3, i64_w, i32_w]; rfl
  refine take_ (i := 7) (N := some 26) (v := ?_) (a' := ?_) (zm 13 255) rfl rfl (take_ofW HT_.out HW_.out (by kernel_rfl)) (fun _ _ _ h => h) (Or.inl ⟨by rfl, ?_⟩) hHeld ?_ ?_
  rotate_left
  ·
   rintro w' ⟨s0, s1, s2, s3⟩
   go_simp
   with_reducible rfl
  rotate_left
  · simp only [Act.put, z1, z2, z3, i64_w, i32_w]; rfl
  refine zp 8 27 (zm 13 511) ?_
  refine take_ (i := 9) (N := some 28) (v := ?_) (a' := ?_) (zm 13 1023) rfl rfl (take_ofW HT_.out HW_.out (by kernel_rfl)) (fun _ _ _ h => h) (Or.inl ⟨by rfl, ?_⟩) hHeld ?_ ?_
  rotate_left
  ·
   rintro w' ⟨s0, s1, s2, s3⟩
   go_simp
   with_reducible rfl
  rotate_left
  · simp only [Act.put, z1, z2, z3, i64_w, i32_w]; rfl
  refine zp 10 29 (zm 13 2047) ?_
  refine one_ (i := 11) (N := some 6) (zm 13 4095) rfl rfl (one_of HT_.out (by kernel_rfl)) (by decide) (fun K hK => ?_)
  refine box_step ?hg (N := 6) ?hd (cs := #[.int .i64 0, .int .i64 0, .slice none 0 0]) (t := 41) ?hr ?_; (case hd => rfl); (case hg => rfl); (case hr => first | (go_simp; done) | (go_simp; rfl))
  intro gb349 hg w11 hbox hb; have HS0_ := (hb.cell (World.block_lt_of_cell? _ _ (hHeld.1))).trans (hHeld.1); have HS1_ := (hb.cell (World.block_lt_of_cell? _ _ (hHeld.2.1))).trans (hHeld.2.1); have HS2_ := (hb.cell (World.block_lt_of_cell? _ _ (hHeld.2.2.1))).trans (hHeld.2.2.1); have HS3_ := (hb.cell (World.block_lt_of_cell? _ _ (hHeld.2.2.2))).trans (hHeld.2.2.2); have n0_ := Zs.mk (Kd.S_below (zS HO344) hb)
  have n1_ := Zs.mk (Kd.R_below (by (with_reducible repeat (first | apply Kd.Ral | apply Kd.Rdn | apply Kd.Rdw)); exact HL345_0.out) hb)
  have n2_ := Zs.mk (Kd.R_below (by (with_reducible repeat (first | apply Kd.Ral | apply Kd.Rdn | apply Kd.Rdw)); exact HL347_0.out) hb)
  have n3_ := zKb BK340 hb
  have n4_ := Zs.mk (Kd.C_below (by repeat (first | (with_reducible exact HR345_0.out) | (with_reducible refine Kd.C_alloc ?_ _) | (with_reducible refine Kd.C_drewN ?_ _) | (with_reducible refine Kd.C_drew ?_) | exact HR345_0.out)) hb); have n5_ := Zs.mk (Kd.C_below (by repeat (first | (with_reducible exact HR347_0.out) | (with_reducible refine Kd.C_alloc ?_ _) | (with_reducible refine Kd.C_drewN ?_ _) | (with_reducible refine Kd.C_drew ?_) | exact HR347_0.out)) hb); have n6_ := zBs hb; have n7_ := Zs.mk (hbox); have n8_ := zG (w := w) hg
  have n9_ := zG (w := w) hg
  have n10_ := zN hg (zK BK340)
  have n11_ := zM hg (zK BK340)
  clear HO344; clear HL345_0; clear HL347_0; clear BK340; clear HR345_0; clear HR347_0; clear HB; have HO344 := n0_; have HL345_0 := n1_; have HL347_0 := n2_; have BK340 := n3_; have HR345_0 := n4_; have HR347_0 := n5_; have HB := n6_; have BK349 := n7_; have GW349 := n8_; have GE349 := n9_; have NB340_349 := n10_; have NB349_340 := n11_; clear n0_ n1_ n2_ n3_ n4_ n5_ n6_ n7_ n8_ n9_ n10_ n11_; clear hb hbox hg
  refine hK.out _ _ ⟨HS0_, HS1_, HS2_, HS3_⟩ (fun hHeld => ?_)
  clear hK K
  refine norm_ (a' := ?_) ?_ ?_
  rotate_left
  ·
   show Act.put _ (some 6) _ = _
   simp only [Act.put, z1, z2, z3, i64_w, i32_w]
   rfl
  refine one_ (i := 12) (N := none) (zm 13 8191) rfl rfl (one_of HT_.out (by kernel_rfl)) (by decide) (fun K hK => ?_)
  have hs12 : w11.cell? ⟨gb349, 0, none⟩ = some (.int .i64 0) := (bkc BK349.out 0).trans rfl; have hfs12 := bkf BK349.out 0; have hns12_0 := NB340_349.out; have hms12_0 := NB349_340.out; have hs13 : w11.cell? ⟨gb349, 1, none⟩ = some (.int .i64 0) := (bkc BK349.out 1).trans rfl; have hfs13 := bkf BK349.out 1; have hns13_0 := NB340_349.out; have hms13_0 := NB349_340.out; have hs14 : w11.cell? ⟨gb349, 2, none⟩ = some (.slice none 0 0) := (bkc BK349.out 2).trans rfl; have hfs14 := bkf BK349.out 2; have hns14_0 := NB340_349.out; have hms14_0 := NB349_340.out
  refine skip_ (w1 := ?_) (by rfl) rfl ?_ ?_
  rotate_left
  · go_simp; rfl
  refine hK.out _ _ ⟨((cfr (p := ⟨gb349, _, none⟩) (by first | exact Kd.owb (Kd.S_ne HO344.out BK349.out (by decide)) | (rw [adb]; exact Kd.owb (Kd.S_ne HO344.out BK349.out (by decide))) | (show (Addr.add _ _).block ≠ _; rw [adb]; exact Kd.owb (Kd.S_ne HO344.out BK349.out (by decide))) | (dsimp only; exact Kd.owb (Kd.S_ne HO344.out BK349.out (by decide)))) _).trans (((cfr (p := ⟨gb349, _, none⟩) (by first | exact Kd.owb (Kd.S_ne HO344.out BK349.out (by decide)) | (rw [adb]; exact Kd.owb (Kd.S_ne HO344.out BK349.out (by decide))) | (show (Addr.add _ _).block ≠ _; rw [adb]; exact Kd.owb (Kd.S_ne HO344.out BK349.out (by decide))) | (dsimp only; exact Kd.owb (Kd.S_ne HO344.out BK349.out (by decide)))) _).trans (((cfr (p := ⟨gb349, _, none⟩) (by first | exact Kd.owb (Kd.S_ne HO344.out BK349.out (by decide)) | (rw [adb]; exact Kd.owb (Kd.S_ne HO344.out BK349.out (by decide))) | (show (Addr.add _ _).block ≠ _; rw [adb]; exact Kd.owb (Kd.S_ne HO344.out BK349.out (by decide))) | (dsimp only; exact Kd.owb (Kd.S_ne HO344.out BK349.out (by decide)))) _).trans (hHeld.1)))))), ((cfr (p := ⟨gb349, _, none⟩) (by first | exact Kd.owb (Kd.R_ne HL345_0.out BK349.out (by decide)) | (rw [adb]; exact Kd.owb (Kd.R_ne HL345_0.out BK349.out (by decide))) | (show (Addr.add _ _).block ≠ _; rw [adb]; exact Kd.owb (Kd.R_ne HL345_0.out BK349.out (by decide))) | (dsimp only; exact Kd.owb (Kd.R_ne HL345_0.out BK349.out (by decide)))) _).trans (((cfr (p := ⟨gb349, _, none⟩) (by first | exact Kd.owb (Kd.R_ne HL345_0.out BK349.out (by decide)) | (rw [adb]; exact Kd.owb (Kd.R_ne HL345_0.out BK349.out (by decide))) | (show (Addr.add _ _).block ≠ _; rw [adb]; exact Kd.owb (Kd.R_ne HL345_0.out BK349.out (by decide))) | (dsimp only; exact Kd.owb (Kd.R_ne HL345_0.out BK349.out (by decide)))) _).trans (((cfr (p := ⟨gb349, _, none⟩) (by first | exact Kd.owb (Kd.R_ne HL345_0.out BK349.out (by decide)) | (rw [adb]; exact Kd.owb (Kd.R_ne HL345_0.out BK349.out (by decide))) | (show (Addr.add _ _).block ≠ _; rw [adb]; exact Kd.owb (Kd.R_ne HL345_0.out BK349.out (by decide))) | (dsimp only; exact Kd.owb (Kd.R_ne HL345_0.out BK349.out (by decide)))) _).trans (hHeld.2.1)))))), ((cfr (p := ⟨gb349, _, none⟩) (by first | exact Kd.owb (Kd.S_ne HO344.out BK349.out (by decide)) | (rw [adb]; exact Kd.owb (Kd.S_ne HO344.out BK349.out (by decide))) | (show (Addr.add _ _).block ≠ _; rw [adb]; exact Kd.owb (Kd.S_ne HO344.out BK349.out (by decide))) | (dsimp only; exact Kd.owb (Kd.S_ne HO344.out BK349.out (by decide)))) _).trans (((cfr (p := ⟨gb349, _, none⟩) (by first | exact Kd.owb (Kd.S_ne HO344.out BK349.out (by decide)) | (rw [adb]; exact Kd.owb (Kd.S_ne HO344.out BK349.out (by decide))) | (show (Addr.add _ _).block ≠ _; rw [adb]; exact Kd.owb (Kd.S_ne HO344.out BK349.out (by decide))) | (dsimp only; exact Kd.owb (Kd.S_ne HO344.out BK349.out (by decide)))) _).trans (((cfr (p := ⟨gb349, _, none⟩) (by first | exact Kd.owb (Kd.S_ne HO344.out BK349.out (by decide)) | (rw [adb]; exact Kd.owb (Kd.S_ne HO344.out BK349.out (by decide))) | (show (Addr.add _ _).block ≠ _; rw [adb]; exact Kd.owb (Kd.S_ne HO344.out BK349.out (by decide))) | (dsimp only; exact Kd.owb (Kd.S_ne HO344.out BK349.out (by decide)))) _).trans (hHeld.2.2.1)))))), ((cfr (p := ⟨gb349, _, none⟩) (by first | exact Kd.owb (Kd.R_ne HL347_0.out BK349.out (by decide)) | (rw [adb]; exact Kd.owb (Kd.R_ne HL347_0.out BK349.out (by decide))) | (show (Addr.add _ _).block ≠ _; rw [adb]; exact Kd.owb (Kd.R_ne HL347_0.out BK349.out (by decide))) | (dsimp only; exact Kd.owb (Kd.R_ne HL347_0.out BK349.out (by decide)))) _).trans (((cfr (p := ⟨gb349, _, none⟩) (by first | exact Kd.owb (Kd.R_ne HL347_0.out BK349.out (by decide)) | (rw [adb]; exact Kd.owb (Kd.R_ne HL347_0.out BK349.out (by decide))) | (show (Addr.add _ _).block ≠ _; rw [adb]; exact Kd.owb (Kd.R_ne HL347_0.out BK349.out (by decide))) | (dsimp only; exact Kd.owb (Kd.R_ne HL347_0.out BK349.out (by decide)))) _).trans (((cfr (p := ⟨gb349, _, none⟩) (by first | exact Kd.owb (Kd.R_ne HL347_0.out BK349.out (by decide)) | (rw [adb]; exact Kd.owb (Kd.R_ne HL347_0.out BK349.out (by decide))) | (show (Addr.add _ _).block ≠ _; rw [adb]; exact Kd.owb (Kd.R_ne HL347_0.out BK349.out (by decide))) | (dsimp only; exact Kd.owb (Kd.R_ne HL347_0.out BK349.out (by decide)))) _).trans (hHeld.2.2.2))))))⟩ (fun hHeld => ?_)
  clear hK K
  refine done_ (done_of HT_.out (by kernel_rfl)) ?_
  try go_wp2
  go_loopg [7] k (fun kq v7 w' => ∃ (x7_1 : Int) (x350002_1 : List (S78)) (u350002 : Value), v7 = .int .i64 x7_1 ∧ Zs (aR_ReadAnswer.l0 kq a0 t341 x7_1 (rd (rd_L6 t341 0) 0) (rd (rd_L6 t341 0) 1) x350002_1 = some (r1, r2, r3, r4)) ∧ Zs (kq ≤ k) ∧ Zs (Kd.S (Kd.slice 3 (Kd.int .i64)) 44 w' w.heap.size (fun _ => True) (.slice (some ad345) t341.length co10) t341) ∧ Zs (Kd.R k78 78 w' w.heap.size (fun _ => True) u350002 x350002_1) ∧ Zs (w'.heap[gb340]? = some (.cells #[.int .i64 0, .int .i64 0, (.slice none 0 0)] 41 (0, 0))) ∧ Zs (w'.heap[gb349]? = some (.cells #[.int .i64 (rd (rd_L6 t341 0) 0), .int .i64 (rd (rd_L6 t341 0) 1), u350002] 41 (0, 0))) ∧ Zs (Below w.heap.size w w'))
  case atStart => exact ⟨(1), (([] : List (S78))), (.slice none 0 0), zs, H', ⟨Nat.le_refl _⟩, ⟨by (with_reducible repeat (first | apply Kd.S_alloc | apply Kd.S_drewN | apply Kd.S_drew)); exact Kd.S_mono (Kd.S_far (p := ⟨gb349, 2, none⟩) (Kd.S_far (p := ⟨gb349, 1, none⟩) (Kd.S_far (p := ⟨gb349, 0, none⟩) (Kd.S_types HO344.out BK349.out (by decide)) (fun _ hk => hk.2) (.int .i64 (rd (rd_L6 t341 0) 0))) (fun _ hk => hk.2) (.int .i64 (rd (rd_L6 t341 0) 1))) (fun _ hk => hk.2) (.slice none 0 0)) (fun _ hk => trivial)⟩, ⟨by first | exact Kd.R_nil _ _ _ _ _ | exact Kd.N_nil _ _ _ _ _ | exact Kd.V_nil _ _ _ _ _ | exact Kd.Q_nil _ _ _ _ _ | exact Kd.S_nil _ _ _ _ _⟩, ⟨zF BK340⟩, ⟨zY BK349⟩, ⟨zB⟩⟩
  case round =>
   clear H'
   obtain ⟨x7_1, x350002_1, u350002, rfl, HA, HK1, HO_4, HO_350002, BK340, BK349, HB⟩ := hrel
   cases gk with
   | zero => exact absurd HA.out (by simp [aR_ReadAnswer.l0])
   | succ k1 =>
    have H := HA.out; clear HA
    simp only [aR_ReadAnswer.l0] at H
    by_cases c15 : x7_1 < (t341.length : Int)
    ·
     rw [if_pos c15] at H
     have c15b0 := decide_eq_true c15; clear c15
     have c16 := zc H
     rw [if_pos c16] at H
     have c16b0 := decide_eq_true c16; clear c16
     have c17 := zc H
     rw [if_pos c17] at H
     have c17b0 := decide_eq_true c17; have c17b1 : decide (0 < (rd_L6 t341 x7_1).length) = true := decide_eq_true (by omega); clear c17
     have c18 := zc H
     rw [if_pos c18] at H
     have c18b0 := decide_eq_true c18; have c18b1 : decide (1 < (rd_L6 t341 x7_1).length) = true := decide_eq_true (by omega); clear c18
     have c19 := zc H
     rw [if_pos c19] at H
     have LMc19 := Zs.mk c19; clear c19
     obtain ⟨y354, hy354⟩ : ∃ y_ : List (S78), y_ = (x350002_1 ++ [(⟨rd (rd_L6 t341 x7_1) 0, rd (rd_L6 t341 x7_1) 1⟩ : S78)]) := ⟨_, rfl⟩
     replace H : (aR_ReadAnswer.l0 k1 a0 t341 (wrap64 (x7_1 + 1)) (rd (rd_L6 t341 0) 0) (rd (rd_L6 t341 0) 1) y354) = some (r1, r2, r3, r4) := by first | (rw [hy354]; with_reducible exact H) | (have H2_ := (Option.bind_some _ _).symm.trans H; rw [hy354]; with_reducible exact H2_) | (have H2_ := (Option.bind_some _ _).symm.trans H; with_reducible exact H2_) | with_reducible exact H | (rw [hy354]; exact H) | exact H
     have Ny354 := Zs.mk hy354; clear hy354; have H' := Zs.mk H; clear H
     try go_wp2
     replace HO_4 := Zs.mk (Kd.S_drew HO_4.out); replace HO_350002 := Zs.mk (Kd.Rdw HO_350002.out); replace BK340 := Zs.mk (blk_drew BK340.out); replace BK349 := Zs.mk (blk_drew BK349.out); replace HB := Zs.mk (below_drew1 HB.out); have p350 : 0 ≤ (x7_1 : Int) := zD; have q350 : x7_1 < (t341.length : Int) := zD; obtain ⟨ad350, A350_0, c350_0, e350, hx350_0, hl350_0, hi350_0⟩ := at_L6 (Kd.S_reads' HO_4.out).2.2 x7_1 p350 q350; obtain rfl : ad345 = ad350 := (by injection e350); obtain ⟨ce350, hce350, hMe350, hcc350⟩ := Kd.S_get HO_4.out [] x7_1 p350 (by first | exact q350 | exact zD | (have e_ := (Kd.S_reads' HO_4.out).1; omega))
     obtain ⟨ve350_0, rfl, ge350_0⟩ := hMe350; have hv350_0 := hcc350 0 _ rfl
     rw [Nat.add_zero, show ((Kd.slice 3 (Kd.int .i64))).sz = 1 from rfl, Nat.mul_one] at hv350_0
     replace hv350_0 := Option.some.inj (hv350_0.symm.trans hx350_0)
     rw [hv350_0] at ge350_0
     have HL350_0 := Zs.mk (show Kd.R (Kd.int .i64) 3 _ _ _ _ (rd_L6 t341 x7_1) from ge350_0); clear hv350_0 ge350_0; clear hcc350 hce350; have HR350_0 := Zs.mk hi350_0; have HC350_0 := Zs.mk hl350_0; clear hi350_0 hl350_0; replace p350 := eq_true p350; replace q350 := eq_true q350; have p351 : 0 ≤ (0 : Int) := (by omega); have q351 : 0 < ((rd_L6 t341 x7_1).length : Int) := zD; obtain ⟨ad351, e351, hx351_0⟩ := Kd.at_int (by repeat (first | (with_reducible exact HR350_0.out) | (with_reducible refine Kd.C_alloc ?_ _) | (with_reducible refine Kd.C_drewN ?_ _) | (with_reducible refine Kd.C_drew ?_) | exact HR350_0.out)) 0 p351 q351
     cases e351
     have qi351 : (0 < (rd_L6 t341 x7_1).length) = True := eq_true (by omega)
     (try rw [show ((0 : Int)).toNat = 0 from rfl] at hx351_0)
     (try rw [Addr.add_zero'] at hx351_0)
     replace p351 := eq_true p351; replace q351 := eq_true q351; have p352 : 0 ≤ (x7_1 : Int) := zD; have q352 : x7_1 < (t341.length : Int) := zD; obtain ⟨ad352, A352_0, c352_0, e352, hx352_0, hl352_0, hi352_0⟩ := at_L6 (Kd.S_reads' HO_4.out).2.2 x7_1 p352 q352; obtain rfl : ad345 = ad352 := (by injection e352); obtain ⟨ce352, hce352, hMe352, hcc352⟩ := Kd.S_get HO_4.out [] x7_1 p352 (by first | exact q352 | exact zD | (have e_ := (Kd.S_reads' HO_4.out).1; omega))
     obtain ⟨ve352_0, rfl, ge352_0⟩ := hMe352; have hv352_0 := hcc352 0 _ rfl
     rw [Nat.add_zero, show ((Kd.slice 3 (Kd.int .i64))).sz = 1 from rfl, Nat.mul_one] at hv352_0
     replace hv352_0 := Option.some.inj (hv352_0.symm.trans hx352_0)
     rw [hv352_0] at ge352_0
     have HL352_0 := Zs.mk (show Kd.R (Kd.int .i64) 3 _ _ _ _ (rd_L6 t341 x7_1) from ge352_0); clear hv352_0 ge352_0; clear hcc352 hce352; have HR352_0 := Zs.mk hi352_0; have HC352_0 := Zs.mk hl352_0; clear hi352_0 hl352_0; replace p352 := eq_true p352; replace q352 := eq_true q352; have ea_ := Option.some.inj (hx350_0.symm.trans hx352_0); injection ea_ with ea_ en_ ec_; subst ea_; subst ec_; clear en_; have p353 : 0 ≤ (1 : Int) := (by omega); have q353 : 1 < ((rd_L6 t341 x7_1).length : Int) := zD; obtain ⟨ad353, e353, hx353_0⟩ := Kd.at_int (by repeat (first | (with_reducible exact HR352_0.out) | (with_reducible refine Kd.C_alloc ?_ _) | (with_reducible refine Kd.C_drewN ?_ _) | (with_reducible refine Kd.C_drew ?_) | exact HR352_0.out)) 1 p353 q353
     cases e353
     (try simp only [show (1 : Int).toNat = 1 from rfl, Nat.reduceMul, Nat.reduceEqDiff, Go.Addr.add, ↓reduceIte] at hx353_0)
     have qi353 : (1 < (rd_L6 t341 x7_1).length) = True := eq_true (by omega)
     (try rw [show ((1 : Int)).toNat = 1 from rfl] at hx353_0)
     replace p353 := eq_true p353; replace q353 := eq_true q353
     refine start_ (n := 19) (S := fun w' => w'.cell? ⟨gb349, 0, none⟩ = some (.int .i64 (rd (rd_L6 t341 0) 0)) ∧ w'.cell? ⟨gb349, 1, none⟩ = some (.int .i64 (rd (rd_L6 t341 0) 1)) ∧ w'.cell? ⟨gb349, 2, none⟩ = some (u350002) ∧ w'.cell? (ad345.add (x7_1).toNat) = some (.slice (some ad351) (rd_L6 t341 x7_1).length c350_0) ∧ w'.cell? ad351 = some (.int .i64 (rd (rd_L6 t341 x7_1) 0)) ∧ w'.cell? (ad345.add (x7_1).toNat) = some (.slice (some ad351) (rd_L6 t341 x7_1).length c350_0) ∧ w'.cell? ⟨ad351.block, ad351.off + 1, none⟩ = some (.int .i64 (rd (rd_L6 t341 x7_1) 1))) (ds := [16, 18]) (zo 19) (by kernel_rfl) rfl rfl ⟨(bkc BK349.out 0).trans rfl, (bkc BK349.out 1).trans rfl, (bkc BK349.out 2).trans rfl, hx350_0, hx351_0, hx352_0, hx353_0⟩ (fun hHeld => ?_); refine with_tabW aR_ReadAnswer.tab8 aR_ReadAnswer.bits8 (fun HT_ HW_ => ?_)
     generalize wr.drew = w20 at HO_4 HO_350002 BK340 BK349 HB HL350_0 HL352_0 HR350_0 HR352_0 hx350_0 hx351_0 hx352_0 hx353_0 hHeld ⊢
     refine zp 0 36 (zm 19 1) ?_
     refine zp 2 38 (zm 19 5) ?_
     refine zp 3 39 (zm 19 13) ?_
     refine zp 4 40 (zm 19 29) ?_
     refine zp 8 44 (zm 19 285) ?_
     refine zp 9 45 (zm 19 797) ?_
     refine zp 10 46 (zm 19 1821) ?_
     refine take_ (i := 1) (N := some 37) (v := ?_) (a' := ?_) (zm 19 1823) rfl rfl (take_ofW HT_.out HW_.out (by kernel_rfl)) (fun _ _ _ h => h) (Or.inl ⟨by rfl, ?_⟩) hHeld ?_ ?_
     rotate_left
     ·
      rintro w' ⟨s0, s1, s2, s3, s4, s5, s6⟩
      go_simp
      with_reducible rfl
     rotate_left
     · simp only [Act.put, z1, z2, z3, i64_w, i32_w]; rfl
     refine take_ (i := 5) (N := some 41) (v := ?_) (a' := ?_) (zm 19 1855) rfl rfl (take_ofW HT_.out HW_.out (by kernel_rfl)) (fun _ _ _ h => h) (Or.inl ⟨by rfl, ?_⟩) hHeld ?_ ?_
     rotate_left
     ·
      rintro w' ⟨s0, s1, s2, s3, s4, s5, s6⟩
      go_simp
      with_reducible rfl
     rotate_left
     · simp only [Act.put, z1, z2, z3, i64_w, i32_w]; rfl
     refine zp 6 42 (zm 19 1919) ?_
     refine take_ (i := 7) (N := some 43) (v := ?_) (a' := ?_) (zm 19 2047) rfl rfl (take_ofW HT_.out HW_.out (by kernel_rfl)) (fun _ _ _ h => h) (Or.inl ⟨by rfl, ?_⟩) hHeld ?_ ?_
     rotate_left
     ·
      rintro w' ⟨s0, s1, s2, s3, s4, s5, s6⟩
      go_simp
      with_reducible rfl
     rotate_left
     · simp only [Act.put, z1, z2, z3, i64_w, i32_w]; rfl
     refine take_ (i := 11) (N := some 47) (v := ?_) (a' := ?_) (zm 19 4095) rfl rfl (take_ofW HT_.out HW_.out (by kernel_rfl)) (fun _ _ _ h => h) (Or.inl ⟨by rfl, ?_⟩) hHeld ?_ ?_
     rotate_left
     ·
      rintro w' ⟨s0, s1, s2, s3, s4, s5, s6⟩
      go_simp
      with_reducible rfl
     rotate_left
     · simp only [Act.put, z1, z2, z3, i64_w, i32_w]; rfl
     refine zp 12 48 (zm 19 8191) ?_
     refine take_ (i := 13) (N := some 49) (v := ?_) (a' := ?_) (zm 19 16383) rfl rfl (take_ofW HT_.out HW_.out (by kernel_rfl)) (fun _ _ _ h => h) (Or.inl ⟨by rfl, ?_⟩) hHeld ?_ ?_
     rotate_left
     ·
      rintro w' ⟨s0, s1, s2, s3, s4, s5, s6⟩
      go_simp
      with_reducible rfl
     rotate_left
     · simp only [Act.put, z1, z2, z3, i64_w, i32_w]; rfl
     refine zp 14 50 (zm 19 32767) ?_
     refine one_ (i := 15) (N := some 51) (zm 19 65535) rfl rfl (one_of HT_.out (by kernel_rfl)) (by decide) (fun K hK => ?_)
     refine value_ (w1 := ?_) (v := ?_) (by rfl) rfl ?_ ?_
     rotate_left 2
     ·
      go_simp
      constructor
      · rfl
      · rfl
     refine hK.out _ _ ⟨(bkc (blk_alloc BK349.out _) 0).trans rfl, (bkc (blk_alloc BK349.out _) 1).trans rfl, (bkc (blk_alloc BK349.out _) 2).trans rfl, (World.cell?_alloc_lt _ _ _ (World.block_lt_of_cell? _ _ (hHeld.2.2.2.1))).trans (hHeld.2.2.2.1), (World.cell?_alloc_lt _ _ _ (World.block_lt_of_cell? _ _ (hHeld.2.2.2.2.1))).trans (hHeld.2.2.2.2.1), (World.cell?_alloc_lt _ _ _ (World.block_lt_of_cell? _ _ (hHeld.2.2.2.2.2.1))).trans (hHeld.2.2.2.2.2.1), (World.cell?_alloc_lt _ _ _ (World.block_lt_of_cell? _ _ (hHeld.2.2.2.2.2.2))).trans (hHeld.2.2.2.2.2.2)⟩ (fun hHeld => ?_)
     clear hK K
     refine norm_ (a' := ?_) ?_ ?_
     rotate_left
     ·
      show Act.put _ (some 51) _ = _
      simp only [Act.put, z1, z2, z3, i64_w, i32_w]
      rfl
     refine last_ (i := 16) (N := some 52) (zm 19 131071) rfl rfl (one_of HT_.out (by kernel_rfl)) (by decide) (fun K hK => ?_)
     refine Kd.R_append_step k78 (w0 := w) w.heap.size (by rfl) (.tmp 37) (.tmp 51) 39 78 (.agg #[(.int .i64 0), (.int .i64 0)]) 16 rfl Tryz.underlying39 info78 rfl (by decide) (by omega) u350002 x350002_1 (⟨rd (rd_L6 t341 x7_1) 0, rd (rd_L6 t341 x7_1) 1⟩ : S78) [.int .i64 (rd (rd_L6 t341 x7_1) 0), .int .i64 (rd (rd_L6 t341 x7_1) 1)] (fun _ => True) (fun _ => False) rfl rfl ?aP (fun _ hk => hk.elim) ?aF ?aO ?aB ?aS ?aL ?_
     (case aP => exact k78_mkM _ _ _ (⟨rd (rd_L6 t341 x7_1) 0, rd (rd_L6 t341 x7_1) 1⟩ : S78))
     (case aB => exact zB)
     (case aF => exact (fun _ _ => trivial))
     (case aO => exact (zR HO_350002))
     (case aS => exact (bsz zB))
     (case aL => have := LMc19.out; omega)
     intro v355 w21 ho hb hg hat
     rw [← Ny354.out] at ho
     replace HO_4 := Zs.mk (Kd.S_over' (zS HO_4) (Kd.Rtd (zR HO_350002)) (by decide) hg); replace BK340 := Zs.mk (blk_grown (g := gb340) (o := .cells #[.int .i64 0, .int .i64 0, .slice none 0 0] 41 (0, 0)) (zK BK340) hg (Kd.R_ne HO_350002.out BK340.out (by decide))); replace BK349 := Zs.mk (blk_grown (g := gb349) (o := .cells #[.int .i64 (rd (rd_L6 t341 0) 0), .int .i64 (rd (rd_L6 t341 0) 1), u350002] 41 (0, 0)) (zK BK349) hg (Kd.R_ne HO_350002.out BK349.out (by decide))); replace HL350_0 := Zs.mk (Kd.R_over' (by (with_reducible repeat (first | apply Kd.Ral | apply Kd.Rdn | apply Kd.Rdw)); exact HL350_0.out) (Kd.Rtd (zR HO_350002)) (by decide) hg); replace HL352_0 := Zs.mk (Kd.R_over' (by (with_reducible repeat (first | apply Kd.Ral | apply Kd.Rdn | apply Kd.Rdw)); exact HL352_0.out) (Kd.Rtd (zR HO_350002)) (by decide) hg); replace HB := Zs.mk (hb); have HO356 := Zs.mk (ho); clear HO_350002; clear ho hb hg hat; obtain ⟨Ao22, co22, eo22⟩ := Kd.R_slice HO356.out
     (first | subst eo22 | (injection eo22 with f1_ f2_ f3_; have f4_ := f1_.symm; have f5_ := f3_.symm; clear f1_ f2_ f3_; subst f4_; subst f5_))
     refine hK.out _ _ ?_
     clear hK K
     refine norm_ (a' := ?_) ?_ ?_
     rotate_left
     ·
      show Act.put _ (some 52) _ = _
      simp only [Act.put, z1, z2, z3, i64_w, i32_w]
      rfl
     refine zp 17 53 (zm 19 262143) ?_
     refine last_ (i := 18) (N := none) (zm 19 524287) rfl rfl (one_of HT_.out (by kernel_rfl)) (by decide) (fun K hK => ?_)
     have hs23 : w21.cell? ⟨gb349, 2, none⟩ = some (u350002) := (bkc BK349.out 2).trans rfl; have hfs23 := bkf BK349.out 2; have hns23_0 := NB340_349.out; have hms23_0 := NB349_340.out
     refine skip_ (w1 := ?_) (by rfl) rfl ?_ ?_
     rotate_left
     · go_simp; rfl
     refine hK.out _ _ ?_
     clear hK K
     refine done_ (done_of HT_.out (by kernel_rfl)) ?_
     try go_wp2
     go_roundg k1
     case measure => have := HK1.out; omega
     case rel => exact ⟨(wrap64 (x7_1 + 1)), (y354), (.slice Ao22 y354.length co22), zs, H', ⟨by have := HK1.out; omega⟩, ⟨by (with_reducible repeat (first | apply Kd.S_alloc | apply Kd.S_drewN | apply Kd.S_drew)); exact Kd.S_mono (Kd.S_far (p := ⟨gb349, 2, none⟩) (Kd.S_types HO_4.out BK349.out (by decide)) (fun _ hk => hk.2) (.slice Ao22 y354.length co22)) (fun _ hk => trivial)⟩, ⟨by (with_reducible repeat (first | apply Kd.Ral | apply Kd.Rdn | apply Kd.Rdw)); exact Kd.R_mono (Kd.R_far (p := ⟨gb349, 2, none⟩) (Kd.Rty HO356.out BK349.out (by decide)) (fun _ hk => hk.2) (.slice Ao22 y354.length co22)) (fun _ hk => trivial)⟩, ⟨zF BK340⟩, ⟨zY BK349⟩, ⟨zB⟩⟩
    ·
     rw [if_neg c15] at H
     have c15b0 := decide_eq_false c15; clear c15; obtain ⟨⟨t357, t358⟩, A24, H⟩ := zb H; (try dsimp only [-Int.reduceToNat] at H)
     by_cases c25 : t358 = 0
     ·
      rw [if_pos c25] at H
      obtain ⟨c25b0, c25b1⟩ := zeq c25; clear c25
      by_cases c26 : t357.toList = a0.toList
      ·
       rw [if_pos c26] at H
       obtain ⟨c26b0, c26b1⟩ := zeq c26; clear c26
       simp only [Option.some.injEq, Prod.mk.injEq] at H
       obtain ⟨rfl, rfl, rfl, rfl⟩ := H; have hnb27 := NB349_340.out; have hnc27 := NB340_349.out; obtain ⟨hcz28_0, hcz28_1, hcz28_2⟩ := zC3 BK349; obtain ⟨hfz28_0, hfz28_1, hfz28_2⟩ := zZ3 BK349; obtain ⟨Ao29, co29, eo29⟩ := Kd.R_slice HO_350002.out; subst eo29
       go_wp2_with (first | ((with_reducible refine gkc (f := 15) rfl ?_); refine zgo (some 56) Tryz.func15 #[.agg #[.int .i64 (rd (rd_L6 t341 0) 0), .int .i64 (rd (rd_L6 t341 0) 1), .slice Ao29 x350002_1.length co29]] ?_; (with_reducible refine (aR_WriteAnswer.calls k1 (rd (rd_L6 t341 0) 0) (rd (rd_L6 t341 0) 1) _ _ x350002_1 t357 t358 _ ?side1 ?side2 A24.out).mono ?_); (case side1 => exact zQ HO_350002); (case side2 => exact (Kd.R_reads' HO_350002.out).2.1); rintro e w30 ⟨rfl, hb⟩; refine ⟨_, rfl, ?_⟩; replace HO_4 := Zs.mk (Kd.S_below (zS HO_4) hb); replace HO_350002 := zRb HO_350002 hb; replace BK340 := zKb BK340 hb; replace BK349 := zKb BK349 hb; replace HB := zBs hb; obtain ⟨hcz31_0, hcz31_1, hcz31_2⟩ := zC3 BK349; obtain ⟨hfz31_0, hfz31_1, hfz31_2⟩ := zZ3 BK349; obtain ⟨hcz32_0, hcz32_1, hcz32_2⟩ := zC3 BK340; obtain ⟨hfz32_0, hfz32_1, hfz32_2⟩ := zZ3 BK340))
       refine bodyPost_ret (results_ct rfl _ _ gb340 41 #[.int .i64 (rd (rd_L6 t341 0) 0), .int .i64 (rd (rd_L6 t341 0) 1), .slice Ao29 x350002_1.length co29] (0, 0) _ rfl (zY BK340) Tryz.underlying41 rfl (by kernel_rfl)) rfl ?_
       exact ⟨_, zE, by (with_reducible repeat (first | apply Kd.Ral | apply Kd.Rdn | apply Kd.Rdw)); exact Kd.R_mono (Kd.R_far (p := ⟨gb340, 2, none⟩) (Kd.R_far (p := ⟨gb340, 1, none⟩) (Kd.R_far (p := ⟨gb340, 0, none⟩) (Kd.Rty HO_350002.out BK340.out (by decide)) (fun _ hk => hk.2) (.int .i64 (rd (rd_L6 t341 0) 0))) (fun _ hk => hk.2) (.int .i64 (rd (rd_L6 t341 0) 1))) (fun _ hk => hk.2) (.slice Ao29 x350002_1.length co29)) (fun _ hk => trivial), zB⟩
      ·
       rw [if_neg c26] at H
       obtain ⟨c26b0, c26b1⟩ := zne c26
       simp only [Option.some.injEq, Prod.mk.injEq] at H
       obtain ⟨rfl, rfl, rfl, rfl⟩ := H; have hnb33 := NB349_340.out; have hnc33 := NB340_349.out; obtain ⟨hcz34_0, hcz34_1, hcz34_2⟩ := zC3 BK349; obtain ⟨hfz34_0, hfz34_1, hfz34_2⟩ := zZ3 BK349; obtain ⟨Ao35, co35, eo35⟩ := Kd.R_slice HO_350002.out; subst eo35
       go_wp2_with (first | ((with_reducible refine gkc (f := 15) rfl ?_); refine zgo (some 56) Tryz.func15 #[.agg #[.int .i64 (rd (rd_L6 t341 0) 0), .int .i64 (rd (rd_L6 t341 0) 1), .slice Ao35 x350002_1.length co35]] ?_; (with_reducible refine (aR_WriteAnswer.calls k1 (rd (rd_L6 t341 0) 0) (rd (rd_L6 t341 0) 1) _ _ x350002_1 t357 t358 _ ?side1 ?side2 A24.out).mono ?_); (case side1 => exact zQ HO_350002); (case side2 => exact (Kd.R_reads' HO_350002.out).2.1); rintro e w36 ⟨rfl, hb⟩; refine ⟨_, rfl, ?_⟩; replace HO_4 := Zs.mk (Kd.S_below (zS HO_4) hb); replace HO_350002 := zRb HO_350002 hb; replace BK340 := zKb BK340 hb; replace BK349 := zKb BK349 hb; replace HB := zBs hb; obtain ⟨hcz37_0, hcz37_1, hcz37_2⟩ := zC3 BK340; obtain ⟨hfz37_0, hfz37_1, hfz37_2⟩ := zZ3 BK340))
       refine bodyPost_ret (results_ct rfl _ _ gb340 41 #[.int .i64 0, .int .i64 0, .slice none 0 0] (0, 0) _ rfl (zY BK340) Tryz.underlying41 rfl (by kernel_rfl)) rfl ?_
       exact ⟨_, zE, by first | exact Kd.R_nil _ _ _ _ _ | exact Kd.N_nil _ _ _ _ _ | exact Kd.V_nil _ _ _ _ _ | exact Kd.Q_nil _ _ _ _ _ | exact Kd.S_nil _ _ _ _ _, zB⟩
     ·
      rw [if_neg c25] at H
      obtain ⟨c25b0, c25b1⟩ := zne c25
      simp only [Option.some.injEq, Prod.mk.injEq] at H
      obtain ⟨rfl, rfl, rfl, rfl⟩ := H; have hnb38 := NB349_340.out; have hnc38 := NB340_349.out; obtain ⟨hcz39_0, hcz39_1, hcz39_2⟩ := zC3 BK349; obtain ⟨hfz39_0, hfz39_1, hfz39_2⟩ := zZ3 BK349; obtain ⟨Ao40, co40, eo40⟩ := Kd.R_slice HO_350002.out; subst eo40
      go_wp2_with (first | ((with_reducible refine gkc (f := 15) rfl ?_); refine zgo (some 56) Tryz.func15 #[.agg #[.int .i64 (rd (rd_L6 t341 0) 0), .int .i64 (rd (rd_L6 t341 0) 1), .slice Ao40 x350002_1.length co40]] ?_; (with_reducible refine (aR_WriteAnswer.calls k1 (rd (rd_L6 t341 0) 0) (rd (rd_L6 t341 0) 1) _ _ x350002_1 t357 t358 _ ?side1 ?side2 A24.out).mono ?_); (case side1 => exact zQ HO_350002); (case side2 => exact (Kd.R_reads' HO_350002.out).2.1); rintro e w41 ⟨rfl, hb⟩; refine ⟨_, rfl, ?_⟩; replace HO_4 := Zs.mk (Kd.S_below (zS HO_4) hb); replace HO_350002 := zRb HO_350002 hb; replace BK340 := zKb BK340 hb; replace BK349 := zKb BK349 hb; replace HB := zBs hb; obtain ⟨hcz42_0, hcz42_1, hcz42_2⟩ := zC3 BK340; obtain ⟨hfz42_0, hfz42_1, hfz42_2⟩ := zZ3 BK340))
      refine bodyPost_ret (results_ct rfl _ _ gb340 41 #[.int .i64 0, .int .i64 0, .slice none 0 0] (0, 0) _ rfl (zY BK340) Tryz.underlying41 rfl (by kernel_rfl)) rfl ?_
      exact ⟨_, zE, by first | exact Kd.R_nil _ _ _ _ _ | exact Kd.N_nil _ _ _ _ _ | exact Kd.V_nil _ _ _ _ _ | exact Kd.Q_nil _ _ _ _ _ | exact Kd.S_nil _ _ _ _ _, zB⟩
 ·
  rw [if_neg c3] at H
  obtain ⟨c3b0, c3b1⟩ := zne c3
  simp only [Option.some.injEq, Prod.mk.injEq] at H
  obtain ⟨rfl, rfl, rfl, rfl⟩ := H
  go_enter Tryz.func33, Tryz.ntmps33
  go_wp2_with (first | ((with_reducible refine gkd (N := 2) rfl ?_); refine bxe ?hg (N := 2) ?hd (cs := #[.int .i64 0, .int .i64 0, .slice none 0 0]) (t := 41) ?hr ?_; (case hd => rfl); (case hg => rfl); (case hr => first | (go_simp; done) | (go_simp; rfl)); intro gb340 hg w43 hbox hb; have BK340 := Zs.mk (hbox); have GW340 := zG (w := w) hg; have GE340 := zG (w := w) hg; replace HB := zBs hb; clear hb hbox hg) | ((with_reducible refine gkc (f := 57) rfl ?_); refine zgo (some 12) Tryz.func57 #[.string a0, .string (⟨#[66, 65, 67, 75]⟩ : ByteArray), .int .i64 3, .string (⟨#[114, 101, 116, 117, 114, 110]⟩ : ByteArray), .int .i64 2] ?_; (with_reducible refine (aR_parse.calls k a0 (⟨#[66, 65, 67, 75]⟩ : ByteArray) 3 (⟨#[114, 101, 116, 117, 114, 110]⟩ : ByteArray) 2 t341 t342 _ A2.out).mono ?_); rintro e w44 ⟨v343, rfl, ho0, hb⟩; refine ⟨_, rfl, ?_⟩; have HO344 := Zs.mk (Kd.S_lower ho0 (bsz zB)); replace BK340 := zKb BK340 hb; replace HB := zBs hb; obtain ⟨hcz45_0, hcz45_1, hcz45_2⟩ := zC3 BK340; obtain ⟨hfz45_0, hfz45_1, hfz45_2⟩ := zZ3 BK340))
  refine bodyPost_ret (results_ct rfl _ _ gb340 41 #[.int .i64 0, .int .i64 0, .slice none 0 0] (0, 0) _ rfl (zY BK340) Tryz.underlying41 rfl (by kernel_rfl)) rfl ?_
  exact ⟨_, zE, by first | exact Kd.R_nil _ _ _ _ _ | exact Kd.N_nil _ _ _ _ _ | exact Kd.V_nil _ _ _ _ _ | exact Kd.Q_nil _ _ _ _ _ | exact Kd.S_nil _ _ _ _ _, zB⟩
end
end Go.Proofs.YtndojpcjhkncgaaGreatDoor.Q
end
section
namespace Go.Proofs.YtndojpcjhkncgaaGreatDoor.Q
open Go Go.RowKit Go.Proofs.YtndojpcjhkncgaaGreatDoorW.PrintWords
section
def parseR (w1 w2 : List UInt8) (m1 m2 : Nat) (t : List UInt8) : List (List Int) × Int :=
  if readC (lineOk w1 m1 w2 m2) t = 0 then (match rowsF w1 m1 w2 m2 (linesOf t) with | some (h, rs) => (h :: rs, 0) | none => ([], 0)) else ([], readC (lineOk w1 m1 w2 m2) t)
theorem rows_some (w1 w2 : List UInt8) (m1 m2 : Nat) (t : List UInt8) (h : allOk (lineOk w1 m1 w2 m2) [] (linesOf t) = true) : ∃ l ls a rs, linesOf t = l :: ls ∧ scanF l w1 m1 = some a ∧ scansF w2 m2 ls = some rs ∧ rowsF w1 m1 w2 m2 (linesOf t) = some (a, rs) := by
  obtain ⟨l, ls, hl⟩ : ∃ l ls, linesOf t = l :: ls := words_ne 10 _
  rw [hl, allOk_rows] at h
  obtain ⟨⟨a, rs⟩, hr⟩ := Option.isSome_iff_exists.mp h
  have hr2 := hr
  rw [rowsF] at hr2
  cases e1 : scanF l w1 m1 with
  | none => rw [e1] at hr2; cases hr2
  | some x =>
    cases e2 : scansF w2 m2 ls with
    | none => rw [e1, e2] at hr2; cases hr2
    | some y =>
      rw [e1, e2] at hr2
      obtain ⟨h1, h2⟩ := Prod.mk.inj (Option.some.inj hr2)
      exact ⟨l, ls, a, rs, hl, by rw [e1, h1], by rw [e2, h2], by rw [hl]; exact hr⟩
theorem scansF_drop (w : List UInt8) (m : Nat) (x : List UInt8) (ls : List (List UInt8)) : scansF w m (x :: ls) = match scanF x w m, scansF w m ls with | some r, some rs => some (r :: rs) | _, _ => none := rfl
theorem parse_rest (t : List UInt8) (ht : t.length ≤ 1048576) (w1 w2 : List UInt8) (m1 m2 : Nat) (hm2 : m2 ≤ 100) (a1 : ByteArray) (a2 : Int) (hcut : 22 ≤ t.length) (d : Nat) :
    ∀ (i : Nat) (out : List (List Int)), 1 ≤ i → i + d = (linesOf t).length → out.length ≤ i →
    Ev (fun k => aR_parse.l0 k (B t) a1 a2 (B w2) (m2 : Int) ((t.length - 22 : Nat) : Int) (B (t.drop (t.length - 22))) ((linesOf t).map B) out (i : Int))
      (match scansF w2 m2 ((linesOf t).drop i) with | some rs => if t.drop (t.length - 22) = endL (t.take (t.length - 22)) then (out ++ rs, 0) else ([], 361) | none => ([], 360)) := by
  have hlen : (linesOf t).length ≤ t.length + 1 := by
    have h1 := flatL_le' 10 (t.take (t.length - 23))
    rw [List.length_take] at h1
    unfold linesOf
    omega
  have hmem : ∀ x ∈ linesOf t, x.length ≤ 1048576 := fun x hx => by
    have h1 := wordsL_len 10 _ x hx
    rw [List.length_take] at h1
    omega
  have htl : t.length ≤ 1048576 := ht
  induction d with
  | zero =>
    intro i out hi0 hi ho
    rw [show (linesOf t).drop i = [] from List.drop_eq_nil_of_le (by omega)]
    refine Ev.step (fun k => by rw [aR_parse.l0]) (Ev.neg (by rw [List.length_map]; omega) (Ev.pos (by omega) (Ev.pos (by rw [B_size]; omega) ?_)))
    rw [show (((t.length - 22 : Nat) : Int)).toNat = t.length - 22 from rfl, B_mid, List.drop_zero, Nat.sub_zero]
    refine Ev.bind (refEnd_ev _ (by rw [List.length_take]; omega)) ?_
    rw [B_list, B_list]
    show Ev _ (if t.drop (t.length - 22) = endL (t.take (t.length - 22)) then (out ++ [], 0) else ([], 361))
    by_cases he : endL (t.take (t.length - 22)) = t.drop (t.length - 22)
    · have e2 : (if t.drop (t.length - 22) = endL (t.take (t.length - 22)) then (out ++ [], (0 : Int)) else ([], 361)) = (out ++ [], 0) := if_pos he.symm
      rw [e2]
      exact Ev.pos he (Ev.ret (by rw [List.append_nil]))
    · have e2 : (if t.drop (t.length - 22) = endL (t.take (t.length - 22)) then (out ++ [], (0 : Int)) else ([], 361)) = ([], 361) := if_neg (fun h => he h.symm)
      rw [e2]
      exact Ev.neg he (Ev.ret rfl)
  | succ d ih =>
    intro i out hi0 hi ho
    have hlt : i < (linesOf t).length := by omega
    refine Ev.step (fun k => by rw [aR_parse.l0]) (Ev.pos (by rw [List.length_map]; omega) (Ev.neg (by omega) (Ev.pos (by omega) ?_)))
    rw [rdB (linesOf t) i hlt, w64 (n := (i : Int) + 1) (by omega) (by omega)]
    refine Ev.bind (numbers_ev _ w2 m2 (hmem _ (List.getElem_mem hlt)) hm2) ?_
    rw [drop_get (linesOf t) i hlt, scansF_drop]
    cases hs : scanF (linesOf t)[i] w2 m2 with
    | none => exact Ev.neg (by simp) (Ev.ret rfl)
    | some r =>
      refine Ev.pos rfl (Ev.pos (by omega) (Ev.eq (ih (i + 1) (out ++ [r]) (by omega) (by omega) (by rw [List.length_append]; simp; omega)) ?_))
      cases scansF w2 m2 ((linesOf t).drop (i + 1)) with
      | none => rfl
      | some rs =>
        show (if t.drop (t.length - 22) = endL (t.take (t.length - 22)) then ((out ++ [r]) ++ rs, (0 : Int)) else ([], 361)) = (if t.drop (t.length - 22) = endL (t.take (t.length - 22)) then (out ++ (r :: rs), 0) else ([], 361))
        rw [List.append_assoc]
        rfl
theorem parse_l0 (t : List UInt8) (ht : t.length ≤ 1048576) (w1 w2 : List UInt8) (m1 m2 : Nat) (hm1 : m1 ≤ 100) (hm2 : m2 ≤ 100) (hcut : 22 ≤ t.length) :
    Ev (fun k => aR_parse.l0 k (B t) (B w1) (m1 : Int) (B w2) (m2 : Int) ((t.length - 22 : Nat) : Int) (B (t.drop (t.length - 22))) ((linesOf t).map B) [] 0)
      (match rowsF w1 m1 w2 m2 (linesOf t) with | some (h, rs) => if t.drop (t.length - 22) = endL (t.take (t.length - 22)) then (h :: rs, 0) else ([], 361) | none => ([], 360)) := by
  obtain ⟨l, ls, hl⟩ : ∃ l ls, linesOf t = l :: ls := words_ne 10 _
  have hmem : l.length ≤ 1048576 := by
    have h1 := wordsL_len 10 (t.take (t.length - 23)) l (by unfold linesOf at hl; rw [hl]; exact List.mem_cons_self)
    rw [List.length_take] at h1
    omega
  have hrest := parse_rest t ht w1 w2 m1 m2 hm2 (B w1) (m1 : Int) hcut ls.length 1
  rw [hl] at hrest ⊢
  refine Ev.step (fun k => by rw [aR_parse.l0]) (Ev.pos (by rw [List.length_map, List.length_cons]; omega) (Ev.pos rfl (Ev.pos (by omega) ?_)))
  have h0 : rdOf ByteArray.empty ((l :: ls).map B) 0 = B l := rdB (l :: ls) 0 (by simp)
  rw [h0]
  refine Ev.bind (numbers_ev l w1 m1 hmem hm1) ?_
  rw [rowsF]
  cases hs : scanF l w1 m1 with
  | none => exact Ev.neg (by simp) (Ev.ret rfl)
  | some r =>
    refine Ev.pos rfl (Ev.pos (by simp) ?_)
    have h1 := hrest [r] (Nat.le_refl _) (by rw [List.length_cons]; omega) (by simp)
    rw [show wrap64 ((0 : Int) + 1) = ((1 : Nat) : Int) from (w64 (by omega) (by omega)).trans rfl]
    refine Ev.eq h1 ?_
    show (match scansF w2 m2 ls with | some rs => if t.drop (t.length - 22) = endL (t.take (t.length - 22)) then ([r] ++ rs, (0 : Int)) else ([], 361) | none => ([], 360)) = _
    cases scansF w2 m2 ls <;> rfl
theorem B_rest' (s : List UInt8) (i : Nat) : (B s).extract i (B s).size = B (s.drop i) := by
  rw [B_size, B_mid, List.take_of_length_le (Nat.le_of_eq List.length_drop)]
theorem parse_ev (t w1 w2 : List UInt8) (m1 m2 : Nat) (ht : t.length ≤ 4611686018427387904) (hm1 : m1 ≤ 100) (hm2 : m2 ≤ 100) : Ev (fun k => aR_parse.f k (B t) (B w1) (m1 : Int) (B w2) (m2 : Int)) (parseR w1 w2 m1 m2 t) := by
  unfold aR_parse.f
  by_cases h1 : ((B t).size : Int) > 1048576
  · refine Ev.pos h1 (Ev.ret ?_)
    rw [B_size] at h1
    have hc : readC (lineOk w1 m1 w2 m2) t = 3 := by unfold readC; rw [if_pos (by omega)]
    unfold parseR
    rw [hc]
    rfl
  refine Ev.neg h1 ?_
  rw [B_size] at h1 ⊢
  have hbad : formB t = false → parseR w1 w2 m1 m2 t = ([], 360) := fun h => by
    have hc : readC (lineOk w1 m1 w2 m2) t = 360 := by unfold readC; rw [if_neg (by omega), if_neg (by rw [h]; simp)]
    unfold parseR
    rw [hc]
    rfl
  have hstop : ∀ c : Int, formB t = false → Ev (fun k => aR_parse.j0 k (B t) (B w1) (m1 : Int) (B w2) (m2 : Int) c true) (parseR w1 w2 m1 m2 t) := fun c h => by
    rw [hbad h]
    exact Ev.step (fun k => by rw [aR_parse.j0]) (Ev.pos rfl (Ev.now _))
  by_cases h2 : t.length < 23
  · refine Ev.pos (by rw [w64 (by omega) (by omega)]; omega) (hstop _ ?_)
    unfold formB
    rw [decide_eq_false (by omega)]
    rfl
  have hw : wrap64 ((t.length : Int) - 22) = ((t.length - 22 : Nat) : Int) := by rw [w64 (by omega) (by omega)]; omega
  have hw2 : wrap64 (((t.length - 22 : Nat) : Int) - 1) = ((t.length - 23 : Nat) : Int) := by rw [w64 (by omega) (by omega)]; omega
  rw [hw, hw2]
  refine Ev.neg (by omega) (Ev.pos (by omega) (Ev.pos (by omega) ?_))
  rw [B_bt t (t.length - 23) (by omega)]
  have hat : t[t.length - 23]? = some t[t.length - 23] := List.getElem?_eq_getElem (by omega)
  by_cases h10 : t[t.length - 23] = 10
  · rw [show (((t[t.length - 23]).toNat : Int) != 10) = false by rw [h10]; rfl]
    -- the end's form
    obtain ⟨z, hz⟩ : ∃ z, z = t.drop (t.length - 22) := ⟨_, rfl⟩
    have hzl : z.length = 22 := by rw [hz, List.length_drop]; omega
    have hform : formB t = closedF z := by
      unfold formB
      rw [hat, h10, ← hz, decide_eq_true (by omega), decide_eq_true rfl, Bool.true_and, Bool.and_true]
    have hcl : closedF z = (decide (z.take 4 = [69, 78, 68, 32]) && (decide (z[12] = 32) && (decide (z[21] = 10) && (((z.drop 4).take 8).all hexB && ((z.drop 13).take 8).all hexB)))) := by
      unfold closedF
      rw [List.getElem?_eq_getElem (show 12 < z.length by omega), List.getElem?_eq_getElem (show 21 < z.length by omega), List.all_append]
      simp only [Option.some.injEq]
    have hext : (B t).extract (((t.length - 22 : Nat) : Int)).toNat (B t).size = B z := by
      rw [hz]
      exact B_rest' t (t.length - 22)
    have hend : ∀ b : Bool, (b = true → closedF z = false) → (b = false → closedF z = true) → Ev (fun k => aR_parse.j1 k (B t) (B w1) (m1 : Int) (B w2) (m2 : Int) ((t.length - 22 : Nat) : Int) (B z) b) (parseR w1 w2 m1 m2 t) := by
      intro b hb1 hb2
      refine Ev.step (fun k => by rw [aR_parse.j1]) ?_
      cases b with
      | true =>
        rw [hbad (by rw [hform]; exact hb1 rfl)]
        exact Ev.pos rfl (Ev.now _)
      | false =>
        refine Ev.neg (by simp) ?_
        rw [hw2]
        refine Ev.pos (by omega) (Ev.pos (by rw [B_size]; omega) ?_)
        rw [show (((t.length - 23 : Nat) : Int)).toNat = t.length - 23 from rfl, B_mid, List.drop_zero, Nat.sub_zero]
        refine Ev.bind (pieces_ev (t.take (t.length - 23)) 10 (by rw [List.length_take]; omega)) ?_
        have h := parse_l0 t (by omega) w1 w2 m1 m2 hm1 hm2 (by omega)
        rw [← hz] at h
        refine Ev.eq h ?_
        have hf : formB t = true := by rw [hform]; exact hb2 rfl
        by_cases hok : allOk (lineOk w1 m1 w2 m2) [] (linesOf t) = true
        · obtain ⟨l, ls, a, rs, g1, g2, g3, g4⟩ := rows_some w1 w2 m1 m2 t hok
          by_cases he : t.drop (t.length - 22) = endL (t.take (t.length - 22))
          · have hc : readC (lineOk w1 m1 w2 m2) t = 0 := (readC_zero _ _).mpr ⟨by omega, hf, hok, he⟩
            unfold parseR
            rw [if_pos hc, g4]
            show (if z = _ then _ else _) = _
            rw [hz, if_pos he]
          · have hc : readC (lineOk w1 m1 w2 m2) t = 361 := by unfold readC; rw [if_neg (by omega), if_pos hf, if_pos hok, if_neg he]
            unfold parseR
            rw [if_neg (by rw [hc]; decide), g4, hc]
            show (if z = _ then _ else _) = _
            rw [hz, if_neg he]
        · have hc : readC (lineOk w1 m1 w2 m2) t = 360 := by unfold readC; rw [if_neg (by omega), if_pos hf, if_neg hok]
          unfold parseR
          rw [if_neg (by rw [hc]; decide), hc]
          obtain ⟨l, ls, hl⟩ : ∃ l ls, linesOf t = l :: ls := words_ne 10 _
          rw [hl, allOk_rows] at hok
          rw [hl]
          cases hr : rowsF w1 m1 w2 m2 (l :: ls) with
          | none => rfl
          | some x => rw [hr] at hok; exact absurd rfl hok
    refine Ev.step (fun k => by rw [aR_parse.j0]) (Ev.neg (by simp) (Ev.pos (by omega) (Ev.pos (by rw [B_size]; omega) ?_)))
    rw [hext]
    have hzs : (B z).size = 22 := by rw [B_size, hzl]
    rw [hzs]
    refine Ev.pos (by omega) (Ev.pos (by omega) ?_)
    rw [B_mid, List.drop_zero, Nat.sub_zero, B_list]
    by_cases c1 : z.take 4 = [69, 78, 68, 32]
    · refine Ev.pos c1 (Ev.pos (by omega) (Ev.pos (by omega) ?_))
      rw [B_mid]
      refine Ev.bind (digits_ev _ (by rw [List.length_take]; omega)) ?_
      by_cases c2 : ((z.drop 4).take 8).all hexB = true
      · refine Ev.pos c2 (Ev.pos (by omega) ?_)
        rw [show bt (B z) 12 = ((z[12]).toNat : Int) from B_bt z 12 (by omega)]
        by_cases c3 : z[12] = 32
        · refine Ev.pos (by rw [c3]; rfl) (Ev.pos (by omega) (Ev.pos (by omega) ?_))
          rw [B_mid]
          refine Ev.bind (digits_ev _ (by rw [List.length_take]; omega)) ?_
          by_cases c4 : ((z.drop 13).take 8).all hexB = true
          · refine Ev.pos c4 (Ev.pos (by omega) ?_)
            rw [show bt (B z) 21 = ((z[21]).toNat : Int) from B_bt z 21 (by omega)]
            refine hend _ (fun h => ?_) (fun h => ?_)
            · rw [hcl, decide_eq_false (p := z[21] = 10) (fun e => by rw [e] at h; exact absurd h (by decide))]
              simp
            · have e21 : z[21] = 10 := UInt8.toNat_inj.1 (by
                have h' : ((z[21]).toNat : Int) = 10 := by simpa using h
                show (z[21]).toNat = 10
                omega)
              rw [hcl, decide_eq_true c1, decide_eq_true c3, decide_eq_true e21, c2, c4]
              rfl
          · exact Ev.neg c4 (hend true (fun _ => by rw [hcl, show ((z.drop 13).take 8).all hexB = false by simpa using c4]; simp) (fun h => by cases h))
        · refine Ev.neg (fun e => c3 (UInt8.toNat_inj.1 (by show (z[12]).toNat = 32; omega))) (hend true (fun _ => ?_) (fun h => by cases h))
          rw [hcl, decide_eq_false c3]
          simp
      · exact Ev.neg c2 (hend true (fun _ => by rw [hcl, show ((z.drop 4).take 8).all hexB = false by simpa using c2]; simp) (fun h => by cases h))
    · refine Ev.neg c1 (hend true (fun _ => ?_) (fun h => by cases h))
      rw [hcl, decide_eq_false c1]
      simp
  · rw [show (((t[t.length - 23]).toNat : Int) != 10) = true by
      rw [bne_iff_ne]
      intro e
      exact h10 (UInt8.toNat_inj.1 (by show (t[t.length - 23]).toNat = 10; omega))]
    refine hstop _ ?_
    unfold formB
    rw [hat, decide_eq_false (p := some t[t.length - 23] = some 10) (fun e => h10 (Option.some.inj e))]
    simp
end
end Go.Proofs.YtndojpcjhkncgaaGreatDoor.Q
end
section
namespace Go.Proofs.YtndojpcjhkncgaaGreatDoor.Q
open Go.RowKit Go.Proofs.YtndojpcjhkncgaaGreatDoorW.PrintWords Go.Proofs.YtndojpcjhkncgaaGreatDoorW.PrintLast Go.Proofs.YtndojpcjhkncgaaGreatDoorW.PrintMore
section
attribute [local go_sem] max2_int min2_int max_two min_two max_three min_three max_four min_four   -- for this text's walks alone
theorem eqA47 (d : Nat) (w : World) (x0 y0 : Int) (x1 y1 : Int) (x2 y2 : Int) (x3 y3 : Int) (x4 y4 : Int) :
    (Op.equalIn (d + 2) 47 (.agg #[.int .i64 x0, .int .i64 x1, .int .i64 x2, .int .i64 x3, .int .i64 x4]) (.agg #[.int .i64 y0, .int .i64 y1, .int .i64 y2, .int .i64 y3, .int .i64 y4])).run Tryz.prog w = .ok (x0 == y0 && (x1 == y1 && (x2 == y2 && (x3 == y3 && (x4 == y4))))) w := by
  refine eqA_of Tryz.underlying47 (by kernel_rfl) ?_
  refine eqf_cons (by rfl) (by go_simp; rfl) (by go_simp; rfl) (by go_simp) ?_
  refine eqf_cons (by rfl) (by go_simp; rfl) (by go_simp; rfl) (by go_simp) ?_
  refine eqf_cons (by rfl) (by go_simp; rfl) (by go_simp; rfl) (by go_simp) ?_
  refine eqf_cons (by rfl) (by go_simp; rfl) (by go_simp; rfl) (by go_simp) ?_
  exact eqf_last (by rfl) (by go_simp; rfl) (by go_simp; rfl) (by go_simp)
end
section
attribute [local go_sem high] eqA47
def aL_sameOrders.l0 : Nat → List (S47) → List (S47) → Int → Option (Bool)
 | 0, _, _, _ => none
 | k + 1, x0, x1, x5 => if x5 < (x0.length : Int) then (if 0 ≤ x5 then (if x5 < (x1.length : Int) then (if (!(((rTO x0 x5).f0) == ((rTO x1 x5).f0)) || (!(((rTO x0 x5).f1) == ((rTO x1 x5).f1)) || (!(((rTO x0 x5).f2) == ((rTO x1 x5).f2)) || (!(((rTO x0 x5).f3) == ((rTO x1 x5).f3)) || (!(((rTO x0 x5).f4) == ((rTO x1 x5).f4))))))) = true then (some false) else (aL_sameOrders.l0 k x0 x1 (wrap64 (x5 + 1)))) else (none)) else (none)) else (some true)
def aL_sameOrders.f (k : Nat) (l0 : List (S47)) (l1 : List (S47)) : Option (Bool) := if (l0.length : Int) = (l1.length : Int) then (aL_sameOrders.l0 k l0 l1 0) else (some false)
set_option maxHeartbeats 8000000 in
set_option maxRecDepth 100000 in
theorem aL_sameOrders.calls (k : Nat) (A0 : Option Addr) (c0 : Nat) (l0 : List (S47)) (A1 : Option Addr) (c1 : Nat) (l1 : List (S47)) (r : Bool) (w : World) (hr0 : Kd.C k47 w A0 l0.length l0) (hc0 : l0.length ≤ c0) (hr1 : Kd.C k47 w A1 l1.length l1) (hc1 : l1.length ≤ c1) (h : aL_sameOrders.f k l0 l1 = some r) :
  Calls Tryz.prog 41 #[.slice A0 l0.length c0, .slice A1 l1.length c1] w fun e w' => e = .returned (.bool r) ∧ Drawn0 w w' := by
 have hu47 := Tryz.underlying47; have HR0 := Zs.mk hr0; have HC0 := Zs.mk hc0; clear hr0 hc0; have HR1 := Zs.mk hr1; have HC1 := Zs.mk hc1; clear hr1 hc1; have H : (if (l0.length : Int) = (l1.length : Int) then (aL_sameOrders.l0 k l0 l1 0) else (some false)) = some r := h; clear h
 by_cases c3 : (l0.length : Int) = (l1.length : Int)
 ·
  rw [if_pos c3] at H
  obtain ⟨c3b0, c3b1⟩ := zeq c3
  have c3b2 : (l0.length == l1.length) = true := by first | simpa using c3 | (simp at c3 ⊢; omega)
  clear c3; have H' := Zs.mk H; clear H
  go_enter Tryz.func41, Tryz.ntmps41
  go_wp2
  repeat (go_quiet (skip); try go_wp2)
  go_loopg [5] k (fun kq v5 w' => ∃ (x5_1 : Int), v5 = .int .i64 x5_1 ∧ Zs (aL_sameOrders.l0 kq l0 l1 x5_1 = some r) ∧ Zs (kq ≤ k) ∧ Drawn0 w w')
  case atStart => exact ⟨(0), zs, H', ⟨Nat.le_refl _⟩, by repeat (first | exact Drawn0.refl _ | apply Drawn0.step)⟩
  case round =>
   clear H'
   obtain ⟨x5_1, rfl, HA, HK1, ⟨m1, rfl⟩⟩ := hrel
   cases gk with
   | zero => exact absurd HA.out (by simp [aL_sameOrders.l0])
   | succ k1 =>
    have H := HA.out; clear HA
    simp only [aL_sameOrders.l0] at H
    by_cases c4 : x5_1 < (l0.length : Int)
    ·
     rw [if_pos c4] at H
     have c4b0 := decide_eq_true c4; clear c4
     have c5 := zc H
     rw [if_pos c5] at H
     have c5b0 := decide_eq_true c5; clear c5
     have c6 := zc H
     rw [if_pos c6] at H
     have c6b0 := decide_eq_true c6; clear c6
     by_cases c7 : (!(((rTO l0 x5_1).f0) == ((rTO l1 x5_1).f0)) || (!(((rTO l0 x5_1).f1) == ((rTO l1 x5_1).f1)) || (!(((rTO l0 x5_1).f2) == ((rTO l1 x5_1).f2)) || (!(((rTO l0 x5_1).f3) == ((rTO l1 x5_1).f3)) || (!(((rTO l0 x5_1).f4) == ((rTO l1 x5_1).f4))))))) = true
     ·
      rw [if_pos c7] at H
      have c7b0 : (!(((rTO l0 x5_1).f0) == ((rTO l1 x5_1).f0)) || (!(((rTO l0 x5_1).f1) == ((rTO l1 x5_1).f1)) || (!(((rTO l0 x5_1).f2) == ((rTO l1 x5_1).f2)) || (!(((rTO l0 x5_1).f3) == ((rTO l1 x5_1).f3)) || (!(((rTO l0 x5_1).f4) == ((rTO l1 x5_1).f4))))))) = true := c7; clear c7; obtain rfl := Option.some.inj H; have p212 : 0 ≤ (x5_1 : Int) := zD; have q212 : x5_1 < (l0.length : Int) := zD; obtain ⟨ad212, e212, hx212_0, hx212_1, hx212_2, hx212_3, hx212_4⟩ := at_T47 HR0.out x5_1 p212 q212
      cases e212
      replace p212 := eq_true p212; replace q212 := eq_true q212; have p213 : 0 ≤ (x5_1 : Int) := zD; have q213 : x5_1 < (l1.length : Int) := zD; obtain ⟨ad213, e213, hx213_0, hx213_1, hx213_2, hx213_3, hx213_4⟩ := at_T47 HR1.out x5_1 p213 q213
      cases e213
      replace p213 := eq_true p213; replace q213 := eq_true q213
      go_wp2
      repeat (go_quiet (skip); try go_wp2)
      go_ret
      exact ⟨by first | rfl | (simp; done) | (simp [*]; done), by repeat (first | exact Drawn0.refl _ | apply Drawn0.step)⟩
     ·
      rw [if_neg c7] at H
      have c7b0 : (!(((rTO l0 x5_1).f0) == ((rTO l1 x5_1).f0)) || (!(((rTO l0 x5_1).f1) == ((rTO l1 x5_1).f1)) || (!(((rTO l0 x5_1).f2) == ((rTO l1 x5_1).f2)) || (!(((rTO l0 x5_1).f3) == ((rTO l1 x5_1).f3)) || (!(((rTO l0 x5_1).f4) == ((rTO l1 x5_1).f4))))))) = false := by simpa using c7
      clear c7; have H' := Zs.mk H; clear H; have p212 : 0 ≤ (x5_1 : Int) := zD; have q212 : x5_1 < (l0.length : Int) := zD; obtain ⟨ad212, e212, hx212_0, hx212_1, hx212_2, hx212_3, hx212_4⟩ := at_T47 HR0.out x5_1 p212 q212
      cases e212
      replace p212 := eq_true p212; replace q212 := eq_true q212; have p213 : 0 ≤ (x5_1 : Int) := zD; have q213 : x5_1 < (l1.length : Int) := zD; obtain ⟨ad213, e213, hx213_0, hx213_1, hx213_2, hx213_3, hx213_4⟩ := at_T47 HR1.out x5_1 p213 q213
      cases e213
      replace p213 := eq_true p213; replace q213 := eq_true q213
      go_wp2
      repeat (go_quiet (skip); try go_wp2)
      go_roundg k1
      case measure => have := HK1.out; omega
      case rel => exact ⟨(wrap64 (x5_1 + 1)), zs, H', ⟨by have := HK1.out; omega⟩, by repeat (first | exact Drawn0.refl _ | apply Drawn0.step)⟩
    ·
     rw [if_neg c4] at H
     have c4b0 := decide_eq_false c4; clear c4; obtain rfl := Option.some.inj H
     go_wp2
     repeat (go_quiet (skip); try go_wp2)
     go_ret
     exact ⟨by first | rfl | (simp; done) | (simp [*]; done), by repeat (first | exact Drawn0.refl _ | apply Drawn0.step)⟩
 ·
  rw [if_neg c3] at H
  obtain ⟨c3b0, c3b1⟩ := zne c3
  have c3b2 : (l0.length == l1.length) = false := by first | simpa using c3 | (simp at c3 ⊢; omega)
  obtain rfl := Option.some.inj H
  go_enter Tryz.func41, Tryz.ntmps41
  go_wp2
  repeat (go_quiet (skip); try go_wp2)
  go_ret
  exact ⟨by first | rfl | (simp; done) | (simp [*]; done), by repeat (first | exact Drawn0.refl _ | apply Drawn0.step)⟩
end
section
def aL_sameFile.f (k : Nat) (a0_0 : Int) (a0_1 : Int) (l0_2 : List (S47)) (a1_0 : Int) (a1_1 : Int) (l1_2 : List (S47)) : Option (Bool) := if a0_0 = a1_0 then (if a0_1 = a1_1 then ((aL_sameOrders.f k l0_2 l1_2).bind fun t216 => (some t216)) else (some false)) else (some false)
set_option maxHeartbeats 8000000 in
set_option maxRecDepth 100000 in
theorem aL_sameFile.calls (k : Nat) (a0_0 : Int) (a0_1 : Int) (A0_2 : Option Addr) (c0_2 : Nat) (l0_2 : List (S47)) (a1_0 : Int) (a1_1 : Int) (A1_2 : Option Addr) (c1_2 : Nat) (l1_2 : List (S47)) (r : Bool) (w : World) (hr0_2 : Kd.C k47 w A0_2 l0_2.length l0_2) (hc0_2 : l0_2.length ≤ c0_2) (hr1_2 : Kd.C k47 w A1_2 l1_2.length l1_2) (hc1_2 : l1_2.length ≤ c1_2) (h : aL_sameFile.f k a0_0 a0_1 l0_2 a1_0 a1_1 l1_2 = some r) :
  Calls Tryz.prog 27 #[.agg #[.int .i64 a0_0, .int .i64 a0_1, .slice A0_2 l0_2.length c0_2], .agg #[.int .i64 a1_0, .int .i64 a1_1, .slice A1_2 l1_2.length c1_2]] w fun e w' => e = .returned (.bool r) ∧ Below w.heap.size w w' := by
 have hu36 := Tryz.underlying36; have HR0_2 := Zs.mk hr0_2; have HC0_2 := Zs.mk hc0_2; clear hr0_2 hc0_2; have HR1_2 := Zs.mk hr1_2; have HC1_2 := Zs.mk hc1_2; clear hr1_2 hc1_2; have HB := Zs.mk (Below.refl w.heap.size w); have H : (if a0_0 = a1_0 then (if a0_1 = a1_1 then ((aL_sameOrders.f k l0_2 l1_2).bind fun t216 => (some t216)) else (some false)) else (some false)) = some r := h; clear h
 by_cases c3 : a0_0 = a1_0
 ·
  rw [if_pos c3] at H
  obtain ⟨c3b0, c3b1⟩ := zeq c3; clear c3
  by_cases c4 : a0_1 = a1_1
  ·
   rw [if_pos c4] at H
   obtain ⟨c4b0, c4b1⟩ := zeq c4; clear c4; replace H := Option.bind_eq_some_iff.mp H; obtain ⟨t216, A50, H⟩ := H; replace H : (some t216) = some r := H; have A5 := Zs.mk A50; clear A50; obtain rfl := Option.some.inj H
   go_enter Tryz.func27, Tryz.ntmps27
   go_wp2_with (first | ((with_reducible refine gkd (N := 2) rfl ?_); refine bxe ?hg (N := 2) ?hd (cs := #[.int .i64 a0_0, .int .i64 a0_1, .slice A0_2 l0_2.length c0_2]) (t := 36) ?hr ?_; (case hd => rfl); (case hg => rfl); (case hr => first | (go_simp; done) | (go_simp; rfl)); intro gb214 hg w6 hbox hb; have BK214 := Zs.mk (hbox); have GW214 := zG (w := w) hg; have GE214 := zG (w := w) hg; replace HB := zBs hb; clear hb hbox hg) | ((with_reducible refine gkd (N := 3) rfl ?_); refine bxe ?hg (N := 3) ?hd (cs := #[.int .i64 a1_0, .int .i64 a1_1, .slice A1_2 l1_2.length c1_2]) (t := 36) ?hr ?_; (case hd => rfl); (case hg => rfl); (case hr => first | (go_simp; done) | (go_simp; rfl)); intro gb215 hg w7 hbox hb; have BK215 := Zs.mk (hbox); have GW215 := zG (w := w) hg; have GE215 := zG (w := w) hg; replace HB := zBs hb; have NB214_215 := zN hg (zK BK214); have NB215_214 := zM hg (zK BK214); replace BK214 := zKb BK214 hb; clear hb hbox hg; have hnb8 := NB214_215.out; have hnc8 := NB215_214.out; obtain ⟨hcz9_0, hcz9_1, hcz9_2⟩ := zC3 BK214; obtain ⟨hfz9_0, hfz9_1, hfz9_2⟩ := zZ3 BK214; obtain ⟨hcz10_0, hcz10_1, hcz10_2⟩ := zC3 BK215; obtain ⟨hfz10_0, hfz10_1, hfz10_2⟩ := zZ3 BK215) | (go_at_call 41; (with_reducible refine (aL_sameOrders.calls k _ _ l0_2 _ _ l1_2 t216 _ ?side1 ?side2 ?side3 ?side4 A5.out).mono ?_); (case side1 => exact zQC HR0_2); (case side2 => exact HC0_2.out); (case side3 => exact zQC HR1_2); (case side4 => exact HC1_2.out); rintro e w' ⟨rfl, ⟨nd, rfl⟩⟩))
   go_ret
   exact ⟨zE, zB⟩
  ·
   rw [if_neg c4] at H
   obtain ⟨c4b0, c4b1⟩ := zne c4; obtain rfl := Option.some.inj H
   go_enter Tryz.func27, Tryz.ntmps27
   go_wp2_with (first | ((with_reducible refine gkd (N := 2) rfl ?_); refine bxe ?hg (N := 2) ?hd (cs := #[.int .i64 a0_0, .int .i64 a0_1, .slice A0_2 l0_2.length c0_2]) (t := 36) ?hr ?_; (case hd => rfl); (case hg => rfl); (case hr => first | (go_simp; done) | (go_simp; rfl)); intro gb214 hg w11 hbox hb; have BK214 := Zs.mk (hbox); have GW214 := zG (w := w) hg; have GE214 := zG (w := w) hg; replace HB := zBs hb; clear hb hbox hg) | ((with_reducible refine gkd (N := 3) rfl ?_); refine bxe ?hg (N := 3) ?hd (cs := #[.int .i64 a1_0, .int .i64 a1_1, .slice A1_2 l1_2.length c1_2]) (t := 36) ?hr ?_; (case hd => rfl); (case hg => rfl); (case hr => first | (go_simp; done) | (go_simp; rfl)); intro gb215 hg w12 hbox hb; have BK215 := Zs.mk (hbox); have GW215 := zG (w := w) hg; have GE215 := zG (w := w) hg; replace HB := zBs hb; have NB214_215 := zN hg (zK BK214); have NB215_214 := zM hg (zK BK214); replace BK214 := zKb BK214 hb; clear hb hbox hg; have hnb13 := NB214_215.out; have hnc13 := NB215_214.out; obtain ⟨hcz14_0, hcz14_1, hcz14_2⟩ := zC3 BK214; obtain ⟨hfz14_0, hfz14_1, hfz14_2⟩ := zZ3 BK214; obtain ⟨hcz15_0, hcz15_1, hcz15_2⟩ := zC3 BK215; obtain ⟨hfz15_0, hfz15_1, hfz15_2⟩ := zZ3 BK215))
   go_ret
   exact ⟨zE, zB⟩
 ·
  rw [if_neg c3] at H
  obtain ⟨c3b0, c3b1⟩ := zne c3; obtain rfl := Option.some.inj H
  go_enter Tryz.func27, Tryz.ntmps27
  go_wp2_with (first | ((with_reducible refine gkd (N := 2) rfl ?_); refine bxe ?hg (N := 2) ?hd (cs := #[.int .i64 a0_0, .int .i64 a0_1, .slice A0_2 l0_2.length c0_2]) (t := 36) ?hr ?_; (case hd => rfl); (case hg => rfl); (case hr => first | (go_simp; done) | (go_simp; rfl)); intro gb214 hg w16 hbox hb; have BK214 := Zs.mk (hbox); have GW214 := zG (w := w) hg; have GE214 := zG (w := w) hg; replace HB := zBs hb; clear hb hbox hg) | ((with_reducible refine gkd (N := 3) rfl ?_); refine bxe ?hg (N := 3) ?hd (cs := #[.int .i64 a1_0, .int .i64 a1_1, .slice A1_2 l1_2.length c1_2]) (t := 36) ?hr ?_; (case hd => rfl); (case hg => rfl); (case hr => first | (go_simp; done) | (go_simp; rfl)); intro gb215 hg w17 hbox hb; have BK215 := Zs.mk (hbox); have GW215 := zG (w := w) hg; have GE215 := zG (w := w) hg; replace HB := zBs hb; have NB214_215 := zN hg (zK BK214); have NB215_214 := zM hg (zK BK214); replace BK214 := zKb BK214 hb; clear hb hbox hg; have hnb18 := NB214_215.out; have hnc18 := NB215_214.out; obtain ⟨hcz19_0, hcz19_1, hcz19_2⟩ := zC3 BK214; obtain ⟨hfz19_0, hfz19_1, hfz19_2⟩ := zZ3 BK214; obtain ⟨hcz20_0, hcz20_1, hcz20_2⟩ := zC3 BK215; obtain ⟨hfz20_0, hfz20_1, hfz20_2⟩ := zZ3 BK215))
  go_ret
  exact ⟨zE, zB⟩
end
section
attribute [local go_sem] max2_int min2_int max_two min_two max_three min_three max_four min_four   -- for this text's walks alone
theorem eqA78 (d : Nat) (w : World) (x0 y0 : Int) (x1 y1 : Int) :
    (Op.equalIn (d + 2) 78 (.agg #[.int .i64 x0, .int .i64 x1]) (.agg #[.int .i64 y0, .int .i64 y1])).run Tryz.prog w = .ok (x0 == y0 && (x1 == y1)) w := by
  refine eqA_of Tryz.underlying78 (by kernel_rfl) ?_
  refine eqf_cons (by rfl) (by go_simp; rfl) (by go_simp; rfl) (by go_simp) ?_
  exact eqf_last (by rfl) (by go_simp; rfl) (by go_simp; rfl) (by go_simp)
end
section
attribute [local go_sem high] eqA78
mutual
def aL_sameAnswer.j0 : Nat → Bool → Int → Int → List (S78) → Int → Int → List (S78) → Option (Bool)
 | 0, _, _, _, _, _, _, _ => none
 | k + 1, x26, x218000, x218001, x218002, x219000, x219001, x219002 => if x26 = true then (some false) else (aL_sameAnswer.l0 k 0 x218000 x218001 x218002 x219000 x219001 x219002)
def aL_sameAnswer.l0 : Nat → Int → Int → Int → List (S78) → Int → Int → List (S78) → Option (Bool)
 | 0, _, _, _, _, _, _, _ => none
 | k + 1, x5, x218000, x218001, x218002, x219000, x219001, x219002 => if x5 < (x218002.length : Int) then (if 0 ≤ x5 then (if x5 < (x219002.length : Int) then (if (!(((rTP x218002 x5).f0) == ((rTP x219002 x5).f0)) || (!(((rTP x218002 x5).f1) == ((rTP x219002 x5).f1)))) = true then (some false) else (aL_sameAnswer.l0 k (wrap64 (x5 + 1)) x218000 x218001 x218002 x219000 x219001 x219002)) else (none)) else (none)) else (some true)
end
def aL_sameAnswer.f (k : Nat) (a0_0 : Int) (a0_1 : Int) (l0_2 : List (S78)) (a1_0 : Int) (a1_1 : Int) (l1_2 : List (S78)) : Option (Bool) := if a0_0 = a1_0 then (if a0_1 = a1_1 then (aL_sameAnswer.j0 k ((l0_2.length : Int) != (l1_2.length : Int)) a0_0 a0_1 l0_2 a1_0 a1_1 l1_2) else (aL_sameAnswer.j0 k true a0_0 a0_1 l0_2 a1_0 a1_1 l1_2)) else (aL_sameAnswer.j0 k true a0_0 a0_1 l0_2 a1_0 a1_1 l1_2)
set_option maxHeartbeats 8000000 in
set_option maxRecDepth 100000 in
theorem aL_sameAnswer.calls (k : Nat) (a0_0 : Int) (a0_1 : Int) (A0_2 : Option Addr) (c0_2 : Nat) (l0_2 : List (S78)) (a1_0 : Int) (a1_1 : Int) (A1_2 : Option Addr) (c1_2 : Nat) (l1_2 : List (S78)) (r : Bool) (w : World) (hr0_2 : Kd.C k78 w A0_2 l0_2.length l0_2) (hc0_2 : l0_2.length ≤ c0_2) (hr1_2 : Kd.C k78 w A1_2 l1_2.length l1_2) (hc1_2 : l1_2.length ≤ c1_2) (h : aL_sameAnswer.f k a0_0 a0_1 l0_2 a1_0 a1_1 l1_2 = some r) :
  Calls Tryz.prog 30 #[.agg #[.int .i64 a0_0, .int .i64 a0_1, .slice A0_2 l0_2.length c0_2], .agg #[.int .i64 a1_0, .int .i64 a1_1, .slice A1_2 l1_2.length c1_2]] w fun e w' => e = .returned (.bool r) ∧ Below w.heap.size w w' := by
 have hu41 := Tryz.underlying41; have hu78 := Tryz.underlying78; have HR0_2 := Zs.mk hr0_2; have HC0_2 := Zs.mk hc0_2; clear hr0_2 hc0_2; have HR1_2 := Zs.mk hr1_2; have HC1_2 := Zs.mk hc1_2; clear hr1_2 hc1_2; have HB := Zs.mk (Below.refl w.heap.size w); have H : (if a0_0 = a1_0 then (if a0_1 = a1_1 then (aL_sameAnswer.j0 k ((l0_2.length : Int) != (l1_2.length : Int)) a0_0 a0_1 l0_2 a1_0 a1_1 l1_2) else (aL_sameAnswer.j0 k true a0_0 a0_1 l0_2 a1_0 a1_1 l1_2)) else (aL_sameAnswer.j0 k true a0_0 a0_1 l0_2 a1_0 a1_1 l1_2)) = some r := h; clear h; have HC3 := Zs.mk H; clear H
 go_enter Tryz.func30, Tryz.ntmps30
 go_upto_region 1 with (first | ((with_reducible refine gkd (N := 2) rfl ?_); (try (refine gate_guard (by rfl) ?_; dsimp only)); refine bxe ?hg (N := 2) ?hd (cs := #[.int .i64 a0_0, .int .i64 a0_1, .slice A0_2 l0_2.length c0_2]) (t := 41) ?hr ?_; (case hd => rfl); (case hg => rfl); (case hr => first | (go_simp; done) | (go_simp; rfl)); intro gb217 hg w4 hbox hb; have BK217 := Zs.mk (hbox); have GW217 := zG (w := w) hg; have GE217 := zG (w := w) hg; replace HB := zBs hb; clear hb hbox hg) | ((with_reducible refine gkd (N := 3) rfl ?_); (try (refine gate_guard (by rfl) ?_; dsimp only)); refine bxe ?hg (N := 3) ?hd (cs := #[.int .i64 a1_0, .int .i64 a1_1, .slice A1_2 l1_2.length c1_2]) (t := 41) ?hr ?_; (case hd => rfl); (case hg => rfl); (case hr => first | (go_simp; done) | (go_simp; rfl)); intro gb218 hg w5 hbox hb; have BK218 := Zs.mk (hbox); have GW218 := zG (w := w) hg; have GE218 := zG (w := w) hg; replace HB := zBs hb; have NB217_218 := zN hg (zK BK217); have NB218_217 := zM hg (zK BK217); replace BK217 := zKb BK217 hb; clear hb hbox hg))
 repeat (go_quiet (skip); try go_wp2)
 (try simp only [Act.put, List.setIfInBounds_toArray, List.set_cons_zero, List.set_cons_succ])
 go_cut [26] (fun v26 wc => ∃ (kq : Nat) (x26_2 : Bool), v26 = .bool x26_2 ∧ Zs (aL_sameAnswer.j0 kq x26_2 a0_0 a0_1 l0_2 a1_0 a1_1 l1_2 = some r) ∧ Zs (kq ≤ k) ∧ Zs (wc.heap[gb217]? = some (.cells #[.int .i64 a0_0, .int .i64 a0_1, (.slice A0_2 l0_2.length c0_2)] 41 (0, 0))) ∧ Zs (wc.heap[gb218]? = some (.cells #[.int .i64 a1_0, .int .i64 a1_1, (.slice A1_2 l1_2.length c1_2)] 41 (0, 0))) ∧ Zs (Below w.heap.size w wc))
 case first =>
  have H := HC3.out; clear HC3
  by_cases c6 : a0_0 = a1_0
  ·
   rw [if_pos c6] at H
   obtain ⟨c6b0, c6b1⟩ := zeq c6; clear c6
   (first | rw [c6b0] | (simp only [i64_w, i32_w]; rw [c6b0]) | skip)
   by_cases c7 : a0_1 = a1_1
   ·
    rw [if_pos c7] at H
    obtain ⟨c7b0, c7b1⟩ := zeq c7; clear c7; have H' := Zs.mk H; clear H; have hnb8 := NB217_218.out; have hnc8 := NB218_217.out; obtain ⟨hcz9_0, hcz9_1, hcz9_2⟩ := zC3 BK217; obtain ⟨hfz9_0, hfz9_1, hfz9_2⟩ := zZ3 BK217; obtain ⟨hcz10_0, hcz10_1, hcz10_2⟩ := zC3 BK218; obtain ⟨hfz10_0, hfz10_1, hfz10_2⟩ := zZ3 BK218
    go_wp2
    repeat (go_quiet (skip); try go_wp2)
    go_meet
    case rel => exact ⟨_, (((l0_2.length : Int) != (l1_2.length : Int))), zs, H', ⟨by first | omega | exact Nat.le_refl _⟩, ⟨zK BK217⟩, ⟨zK BK218⟩, ⟨zB⟩⟩
   ·
    rw [if_neg c7] at H
    obtain ⟨c7b0, c7b1⟩ := zne c7; have H' := Zs.mk H; clear H; have hnb11 := NB217_218.out; have hnc11 := NB218_217.out; obtain ⟨hcz12_0, hcz12_1, hcz12_2⟩ := zC3 BK217; obtain ⟨hfz12_0, hfz12_1, hfz12_2⟩ := zZ3 BK217; obtain ⟨hcz13_0, hcz13_1, hcz13_2⟩ := zC3 BK218; obtain ⟨hfz13_0, hfz13_1, hfz13_2⟩ := zZ3 BK218
    go_wp2
    repeat (go_quiet (skip); try go_wp2)
    go_meet
    case rel => exact ⟨_, (true), zs, H', ⟨by first | omega | exact Nat.le_refl _⟩, ⟨zK BK217⟩, ⟨zK BK218⟩, ⟨zB⟩⟩
  ·
   rw [if_neg c6] at H
   obtain ⟨c6b0, c6b1⟩ := zne c6
   (first | rw [c6b0] | (simp only [i64_w, i32_w]; rw [c6b0]) | skip)
   have H' := Zs.mk H; clear H; have hnb14 := NB217_218.out; have hnc14 := NB218_217.out; obtain ⟨hcz15_0, hcz15_1, hcz15_2⟩ := zC3 BK217; obtain ⟨hfz15_0, hfz15_1, hfz15_2⟩ := zZ3 BK217; obtain ⟨hcz16_0, hcz16_1, hcz16_2⟩ := zC3 BK218; obtain ⟨hfz16_0, hfz16_1, hfz16_2⟩ := zZ3 BK218
   go_wp2
   repeat (go_quiet (skip); try go_wp2)
   go_meet
   case rel => exact ⟨_, (true), zs, H', ⟨by first | omega | exact Nat.le_refl _⟩, ⟨zK BK217⟩, ⟨zK BK218⟩, ⟨zB⟩⟩
 case rest =>
  clear HC3
  obtain ⟨kq, x26_2, rfl, HA, HJ2, BK217, BK218, HB⟩ := hcut
  cases kq with
  | zero => exact absurd HA.out (by simp [aL_sameAnswer.j0])
  | succ kj2 =>
   have H := HA.out; clear HA
   simp only [aL_sameAnswer.j0] at H
   by_cases c17 : x26_2 = true
   ·
    subst c17
    rw [if_pos rfl] at H
    obtain rfl := Option.some.inj H
    go_wp2
    repeat (go_quiet (skip); try go_wp2)
    go_ret
    exact ⟨zE, zB⟩
   ·
    replace c17 := Bool.eq_false_iff.mpr c17; subst c17
    rw [if_neg (show ¬ (false = true) by decide)] at H
    have H' := Zs.mk H; clear H
    go_wp2
    repeat (go_quiet (skip); try go_wp2)
    go_loopg [5] kj2 (fun kq v5 w' => ∃ (x5_2 : Int), v5 = .int .i64 x5_2 ∧ Zs (aL_sameAnswer.l0 kq x5_2 a0_0 a0_1 l0_2 a1_0 a1_1 l1_2 = some r) ∧ Zs (kq ≤ kj2) ∧ Zs (w'.heap[gb217]? = some (.cells #[.int .i64 a0_0, .int .i64 a0_1, (.slice A0_2 l0_2.length c0_2)] 41 (0, 0))) ∧ Zs (w'.heap[gb218]? = some (.cells #[.int .i64 a1_0, .int .i64 a1_1, (.slice A1_2 l1_2.length c1_2)] 41 (0, 0))) ∧ Zs (Below w.heap.size w w'))
    case atStart => exact ⟨(0), zs, H', ⟨Nat.le_refl _⟩, ⟨zK BK217⟩, ⟨zK BK218⟩, ⟨zB⟩⟩
    case round =>
     clear H'
     obtain ⟨x5_2, rfl, HA, HK2, BK217, BK218, HB⟩ := hrel
     cases gk with
     | zero => exact absurd HA.out (by simp [aL_sameAnswer.l0])
     | succ k2 =>
      have H := HA.out; clear HA
      simp only [aL_sameAnswer.l0] at H
      by_cases c18 : x5_2 < (l0_2.length : Int)
      ·
       rw [if_pos c18] at H
       have c18b0 := decide_eq_true c18; clear c18
       have c19 := zc H
       rw [if_pos c19] at H
       have c19b0 := decide_eq_true c19; clear c19
       have c20 := zc H
       rw [if_pos c20] at H
       have c20b0 := decide_eq_true c20; clear c20
       by_cases c21 : (!(((rTP l0_2 x5_2).f0) == ((rTP l1_2 x5_2).f0)) || (!(((rTP l0_2 x5_2).f1) == ((rTP l1_2 x5_2).f1)))) = true
       ·
        rw [if_pos c21] at H
        have c21b0 : (!(((rTP l0_2 x5_2).f0) == ((rTP l1_2 x5_2).f0)) || (!(((rTP l0_2 x5_2).f1) == ((rTP l1_2 x5_2).f1)))) = true := c21; clear c21; obtain rfl := Option.some.inj H; have hnb22 := NB217_218.out; have hnc22 := NB218_217.out; obtain ⟨hcz23_0, hcz23_1, hcz23_2⟩ := zC3 BK217; obtain ⟨hfz23_0, hfz23_1, hfz23_2⟩ := zZ3 BK217; have p219 : 0 ≤ (x5_2 : Int) := zD; have q219 : x5_2 < (l0_2.length : Int) := zD; obtain ⟨ad219, e219, hx219_0, hx219_1⟩ := at_T78 HR0_2.out x5_2 p219 q219
        cases e219
        replace hx219_0 := zL HB hx219_0; replace hx219_1 := zL HB hx219_1; replace p219 := eq_true p219; replace q219 := eq_true q219; obtain ⟨hcz24_0, hcz24_1, hcz24_2⟩ := zC3 BK218; obtain ⟨hfz24_0, hfz24_1, hfz24_2⟩ := zZ3 BK218; have p220 : 0 ≤ (x5_2 : Int) := zD; have q220 : x5_2 < (l1_2.length : Int) := zD; obtain ⟨ad220, e220, hx220_0, hx220_1⟩ := at_T78 HR1_2.out x5_2 p220 q220
        cases e220
        replace hx220_0 := zL HB hx220_0; replace hx220_1 := zL HB hx220_1; replace p220 := eq_true p220; replace q220 := eq_true q220
        go_wp2
        repeat (go_quiet (skip); try go_wp2)
        go_ret
        exact ⟨zE, zB⟩
       ·
        rw [if_neg c21] at H
        have c21b0 : (!(((rTP l0_2 x5_2).f0) == ((rTP l1_2 x5_2).f0)) || (!(((rTP l0_2 x5_2).f1) == ((rTP l1_2 x5_2).f1)))) = false := by simpa using c21
        clear c21; have H' := Zs.mk H; clear H; have hnb25 := NB217_218.out; have hnc25 := NB218_217.out; obtain ⟨hcz26_0, hcz26_1, hcz26_2⟩ := zC3 BK217; obtain ⟨hfz26_0, hfz26_1, hfz26_2⟩ := zZ3 BK217; have p219 : 0 ≤ (x5_2 : Int) := zD; have q219 : x5_2 < (l0_2.length : Int) := zD; obtain ⟨ad219, e219, hx219_0, hx219_1⟩ := at_T78 HR0_2.out x5_2 p219 q219
        cases e219
        replace hx219_0 := zL HB hx219_0; replace hx219_1 := zL HB hx219_1; replace p219 := eq_true p219; replace q219 := eq_true q219; obtain ⟨hcz27_0, hcz27_1, hcz27_2⟩ := zC3 BK218; obtain ⟨hfz27_0, hfz27_1, hfz27_2⟩ := zZ3 BK218; have p220 : 0 ≤ (x5_2 : Int) := zD; have q220 : x5_2 < (l1_2.length : Int) := zD; obtain ⟨ad220, e220, hx220_0, hx220_1⟩ := at_T78 HR1_2.out x5_2 p220 q220
        cases e220
        replace hx220_0 := zL HB hx220_0; replace hx220_1 := zL HB hx220_1; replace p220 := eq_true p220; replace q220 := eq_true q220
        go_wp2
        repeat (go_quiet (skip); try go_wp2)
        go_roundg k2
        case measure => have := HJ2.out; have := HK2.out; omega
        case rel => exact ⟨(wrap64 (x5_2 + 1)), zs, H', ⟨by have := HJ2.out; have := HK2.out; omega⟩, ⟨zK BK217⟩, ⟨zK BK218⟩, ⟨zB⟩⟩
      ·
       rw [if_neg c18] at H
       have c18b0 := decide_eq_false c18; clear c18; obtain rfl := Option.some.inj H; have hnb28 := NB217_218.out; have hnc28 := NB218_217.out; obtain ⟨hcz29_0, hcz29_1, hcz29_2⟩ := zC3 BK217; obtain ⟨hfz29_0, hfz29_1, hfz29_2⟩ := zZ3 BK217
       go_wp2
       repeat (go_quiet (skip); try go_wp2)
       go_ret
       exact ⟨zE, zB⟩
end
section
def aL_old.l0 : Nat → Int → Int → Int → List (S49) → Int → Int → List (S78) → Option (Int × Int × (List (S78)))
 | 0, _, _, _, _, _, _, _ => none
 | k + 1, x4, x181000, x181001, x181002, x183000, x183001, x183002 => if x4 < (x181002.length : Int) then (if 0 ≤ x4 then (if x183002.length < 8796093022208 then (aL_old.l0 k (wrap64 (x4 + 1)) x181000 x181001 x181002 x183000 x183001 (x183002 ++ [(⟨(rTR x181002 x4).f0, (rTR x181002 x4).f1⟩ : S78)])) else (none)) else (none)) else (some (x183000, x183001, x183002))
def aL_old.f (k : Nat) (a0_0 : Int) (a0_1 : Int) (l0_2 : List (S49)) : Option (Int × Int × (List (S78))) := aL_old.l0 k 0 a0_0 a0_1 l0_2 a0_0 a0_1 ([] : List (S78))
def aL_old.T5 : Bool × List (List Nat × List Nat) := (true, [([], []), ([0], [0]), ([], []), ([2], [2]), ([], []), ([3, 4], [3, 4]), ([5], [5]), ([6], [6]), ([], []), ([8], [8]), ([], []), ([9, 10], [9, 10]), ([11], [11]), ([12], [12]), ([7, 13], [7, 13]), ([14], [14]), ([1, 15], [1, 15]), ([0, 1, 2, 3, 4, 5, 6, 7, 8, 9, 10, 11, 12, 13, 14, 15, 16], []), ([17, 16, 16, 0, 1, 2, 3, 4, 5, 6, 7, 8, 9, 10, 11, 12, 13, 14, 15, 16], [16, 17])])
def aL_old.B5 : List Nat := [0, 1, 0, 4, 0, 28, 60, 124, 0, 256, 0, 1792, 3840, 7936, 16380, 32764, 65535, 131071, 262143]
theorem aL_old.tab5 : rtab .any (opsOf Tryz.f16 5) = aL_old.T5 := by kernel_rfl
theorem aL_old.bits5 : waitsOk aL_old.T5.2 aL_old.B5 = true := by kernel_rfl
set_option maxHeartbeats 8000000 in
set_option maxRecDepth 100000 in
theorem aL_old.calls (k : Nat) (a0_0 : Int) (a0_1 : Int) (A0_2 : Option Addr) (c0_2 : Nat) (l0_2 : List (S49)) (r1 : Int) (r2 : Int) (r3 : List (S78)) (w : World) (hr0_2 : Kd.C k49 w A0_2 l0_2.length l0_2) (hc0_2 : l0_2.length ≤ c0_2) (h : aL_old.f k a0_0 a0_1 l0_2 = some (r1, r2, r3)) :
  Calls Tryz.prog 16 #[.agg #[.int .i64 a0_0, .int .i64 a0_1, .slice A0_2 l0_2.length c0_2]] w fun e w' => ∃ v2_ : Value, e = .returned (.agg #[.int .i64 r1, .int .i64 r2, v2_]) ∧ Kd.R k78 78 w' w.heap.size (fun _ => True) v2_ r3 ∧ Below w.heap.size w w' := by
 have hu30 := Tryz.underlying30; have hu41 := Tryz.underlying41; have hu78 := Tryz.underlying78; have HR0_2 := Zs.mk hr0_2; have HC0_2 := Zs.mk hc0_2; clear hr0_2 hc0_2; have HB := Zs.mk (Below.refl w.heap.size w); have H : (aL_old.l0 k 0 a0_0 a0_1 l0_2 a0_0 a0_1 ([] : List (S78))) = some (r1, r2, r3) := h; clear h; have H' := Zs.mk H; clear H
 go_enter Tryz.func16, Tryz.ntmps16
 go_wp2_with (first | ((with_reducible refine gkd (N := 1) rfl ?_); refine bxe ?hg (N := 1) ?hd (cs := #[.int .i64 a0_0, .int .i64 a0_1, .slice A0_2 l0_2.length c0_2]) (t := 30) ?hr ?_; (case hd => rfl); (case hg => rfl); (case hr => first | (go_simp; done) | (go_simp; rfl)); intro gb180 hg w2 hbox hb; have BK180 := Zs.mk (hbox); have GW180 := zG (w := w) hg; have GE180 := zG (w := w) hg; replace HB := zBs hb; clear hb hbox hg) | ((with_reducible refine gkd (N := 2) rfl ?_); refine bxe ?hg (N := 2) ?hd (cs := #[.int .i64 0, .int .i64 0, .slice none 0 0]) (t := 41) ?hr ?_; (case hd => rfl); (case hg => rfl); (case hr => first | (go_simp; done) | (go_simp; rfl)); intro gb181 hg w3 hbox hb; have BK181 := Zs.mk (hbox); have GW181 := zG (w := w) hg; have GE181 := zG (w := w) hg; replace HB := zBs hb; have NB180_181 := zN hg (zK BK180); have NB181_180 := zM hg (zK BK180); replace BK180 := zKb BK180 hb; clear hb hbox hg; have hnb4 := NB180_181.out; have hnc4 := NB181_180.out; obtain ⟨hcz5_0, hcz5_1, hcz5_2⟩ := zC3 BK180; obtain ⟨hfz5_0, hfz5_1, hfz5_2⟩ := zZ3 BK180) | ((with_reducible refine gkd (N := 3) rfl ?_); refine bxe ?hg (N := 3) ?hd (cs := #[.int .i64 0, .int .i64 0, .slice none 0 0]) (t := 41) ?hr ?_; (case hd => rfl); (case hg => rfl); (case hr => first | (go_simp; done) | (go_simp; rfl)); intro gb182 hg w6 hbox hb; have BK182 := Zs.mk (hbox); have GW182 := zG (w := w) hg; have GE182 := zG (w := w) hg; replace HB := zBs hb; have NB180_182 := zN hg (zK BK180); have NB182_180 := zM hg (zK BK180); replace BK180 := zKb BK180 hb; have NB181_182 := zN hg (zK BK181); have NB182_181 := zM hg (zK BK181); replace BK181 := zKb BK181 hb; clear hb hbox hg; have hnb7 := NB182_180.out; have hnc7 := NB180_182.out; have hnb8 := NB182_181.out; have hnc8 := NB181_182.out; obtain ⟨hcz9_0, hcz9_1, hcz9_2⟩ := zC3 BK182; obtain ⟨hfz9_0, hfz9_1, hfz9_2⟩ := zZ3 BK182))
 go_loopg [4] k (fun kq v4 w' => ∃ (x4_1 : Int) (x183002_1 : List (S78)) (u183002 : Value), v4 = .int .i64 x4_1 ∧ Zs (aL_old.l0 kq x4_1 a0_0 a0_1 l0_2 a0_0 a0_1 x183002_1 = some (r1, r2, r3)) ∧ Zs (kq ≤ k) ∧ Zs (Kd.R k78 78 w' w.heap.size (fun _ => True) u183002 x183002_1) ∧ Zs (w'.heap[gb180]? = some (.cells #[.int .i64 a0_0, .int .i64 a0_1, (.slice A0_2 l0_2.length c0_2)] 30 (0, 0))) ∧ Zs (w'.heap[gb181]? = some (.cells #[.int .i64 0, .int .i64 0, (.slice none 0 0)] 41 (0, 0))) ∧ Zs (w'.heap[gb182]? = some (.cells #[.int .i64 a0_0, .int .i64 a0_1, u183002] 41 (0, 0))) ∧ Zs (Below w.heap.size w w'))
 case atStart => exact ⟨(0), (([] : List (S78))), (.slice none 0 0), zs, H', ⟨Nat.le_refl _⟩, ⟨by first | exact Kd.R_nil _ _ _ _ _ | exact Kd.N_nil _ _ _ _ _ | exact Kd.V_nil _ _ _ _ _ | exact Kd.Q_nil _ _ _ _ _ | exact Kd.S_nil _ _ _ _ _⟩, ⟨zF BK180⟩, ⟨zF BK181⟩, ⟨zY BK182⟩, ⟨zB⟩⟩
 case round =>
  clear H'
  obtain ⟨x4_1, x183002_1, u183002, rfl, HA, HK1, HO_183002, BK180, BK181, BK182, HB⟩ := hrel
  cases gk with
  | zero => exact absurd HA.out (by simp [aL_old.l0])
  | succ k1 =>
   have H := HA.out; clear HA
   simp only [aL_old.l0] at H
   by_cases c10 : x4_1 < (l0_2.length : Int)
   ·
    rw [if_pos c10] at H
    have c10b0 := decide_eq_true c10; clear c10
    have c11 := zc H
    rw [if_pos c11] at H
    have c11b0 := decide_eq_true c11; clear c11
    have c12 := zc H
    rw [if_pos c12] at H
    have LMc12 := Zs.mk c12; clear c12
    obtain ⟨y185, hy185⟩ : ∃ y_ : List (S78), y_ = (x183002_1 ++ [(⟨(rTR l0_2 x4_1).f0, (rTR l0_2 x4_1).f1⟩ : S78)]) := ⟨_, rfl⟩
    replace H : (aL_old.l0 k1 (wrap64 (x4_1 + 1)) a0_0 a0_1 l0_2 a0_0 a0_1 y185) = some (r1, r2, r3) := by first | (rw [hy185]; with_reducible exact H) | (have H2_ := (Option.bind_some _ _).symm.trans H; rw [hy185]; with_reducible exact H2_) | (have H2_ := (Option.bind_some _ _).symm.trans H; with_reducible exact H2_) | with_reducible exact H | (rw [hy185]; exact H) | exact H
    have Ny185 := Zs.mk hy185; clear hy185; have H' := Zs.mk H; clear H; have hnb13 := NB180_181.out; have hnc13 := NB181_180.out; have hnb14 := NB180_182.out; have hnc14 := NB182_180.out; obtain ⟨hcz15_0, hcz15_1, hcz15_2⟩ := zC3 BK180; obtain ⟨hfz15_0, hfz15_1, hfz15_2⟩ := zZ3 BK180
    try go_wp2
    replace HO_183002 := Zs.mk (Kd.Rdw HO_183002.out); replace BK180 := Zs.mk (blk_drew BK180.out); replace BK181 := Zs.mk (blk_drew BK181.out); replace BK182 := Zs.mk (blk_drew BK182.out); replace HB := Zs.mk (below_drew1 HB.out); have p183 : 0 ≤ (x4_1 : Int) := zD; have q183 : x4_1 < (l0_2.length : Int) := zD; obtain ⟨ad183, e183, hx183_0, hx183_1⟩ := at_T49 HR0_2.out x4_1 p183 q183; have hw183_1 := hx183_1; have hw183_0 := hx183_0
    cases e183
    replace hx183_0 := zL HB hx183_0; replace hx183_1 := zL HB hx183_1; replace p183 := eq_true p183; replace q183 := eq_true q183; have p184 : 0 ≤ (x4_1 : Int) := zD; have q184 : x4_1 < (l0_2.length : Int) := zD; obtain ⟨ad184, e184, hx184_0, hx184_1⟩ := at_T49 HR0_2.out x4_1 p184 q184; have hw184_1 := hx184_1; have hw184_0 := hx184_0; obtain rfl : ad183 = ad184 := (by injection e184); replace hx184_0 := zL HB hx184_0; replace hx184_1 := zL HB hx184_1; replace p184 := eq_true p184; replace q184 := eq_true q184
    refine start_ (n := 19) (S := fun w' => w'.cell? ⟨gb182, 0, none⟩ = some (.int .i64 a0_0) ∧ w'.cell? ⟨gb182, 1, none⟩ = some (.int .i64 a0_1) ∧ w'.cell? ⟨gb182, 2, none⟩ = some (u183002) ∧ w'.cell? ⟨gb180, 0, none⟩ = some (.int .i64 a0_0) ∧ w'.cell? ⟨gb180, 1, none⟩ = some (.int .i64 a0_1) ∧ w'.cell? ⟨gb180, 2, none⟩ = some (.slice (some ad183) l0_2.length c0_2) ∧ w'.cell? (ad183.add ((x4_1).toNat * 2)) = some (.int .i64 ((rTR l0_2 x4_1).f0)) ∧ w'.cell? ⟨(ad183.add ((x4_1).toNat * 2)).block, (ad183.add ((x4_1).toNat * 2)).off + 1, none⟩ = some (.int .i64 ((rTR l0_2 x4_1).f1)) ∧ w'.cell? (ad183.add ((x4_1).toNat * 2)) = some (.int .i64 ((rTR l0_2 x4_1).f0)) ∧ w'.cell? ⟨(ad183.add ((x4_1).toNat * 2)).block, (ad183.add ((x4_1).toNat * 2)).off + 1, none⟩ = some (.int .i64 ((rTR l0_2 x4_1).f1))) (ds := [18]) (zo 19) (by kernel_rfl) rfl rfl ⟨(bkc BK182.out 0).trans rfl, (bkc BK182.out 1).trans rfl, (bkc BK182.out 2).trans rfl, (bkc BK180.out 0).trans rfl, (bkc BK180.out 1).trans rfl, (bkc BK180.out 2).trans rfl, (zL HB hw183_0), (zL HB hw183_1), (zL HB hw184_0), (zL HB hw184_1)⟩ (fun hHeld => ?_); refine with_tabW aL_old.tab5 aL_old.bits5 (fun HT_ HW_ => ?_)
    generalize wr.drew = w16 at HO_183002 BK180 BK181 BK182 HB hx183_0 hx183_1 hx184_0 hx184_1 hHeld ⊢
    refine zp 0 17 (zm 19 1) ?_
    refine zp 2 19 (zm 19 5) ?_
    refine zp 4 21 (zm 19 21) ?_
    refine zp 8 25 (zm 19 277) ?_
    refine zp 10 27 (zm 19 1301) ?_
    refine take_ (i := 1) (N := some 18) (v := ?_) (a' := ?_) (zm 19 1303) rfl rfl (take_ofW HT_.out HW_.out (by kernel_rfl)) (fun _ _ _ h => h) (Or.inl ⟨by rfl, ?_⟩) hHeld ?_ ?_
    rotate_left
    ·
     rintro w' ⟨s0, s1, s2, s3, s4, s5, s6, s7, s8, s9⟩
     go_simp
     with_reducible rfl
    rotate_left
    · simp only [Act.put, z1, z2, z3, i64_w, i32_w]; rfl
    refine take_ (i := 3) (N := some 20) (v := ?_) (a' := ?_) (zm 19 1311) rfl rfl (take_ofW HT_.out HW_.out (by kernel_rfl)) (fun _ _ _ h => h) (Or.inl ⟨by rfl, ?_⟩) hHeld ?_ ?_
    rotate_left
    ·
     rintro w' ⟨s0, s1, s2, s3, s4, s5, s6, s7, s8, s9⟩
     go_simp
     with_reducible rfl
    rotate_left
    · simp only [Act.put, z1, z2, z3, i64_w, i32_w]; rfl
    refine zp 5 22 (zm 19 1343) ?_
    refine zp 6 23 (zm 19 1407) ?_
    refine take_ (i := 7) (N := some 24) (v := ?_) (a' := ?_) (zm 19 1535) rfl rfl (take_ofW HT_.out HW_.out (by kernel_rfl)) (fun _ _ _ h => h) (Or.inl ⟨by rfl, ?_⟩) hHeld ?_ ?_
    rotate_left
    ·
     rintro w' ⟨s0, s1, s2, s3, s4, s5, s6, s7, s8, s9⟩
     go_simp
     with_reducible rfl
    rotate_left
    · simp only [Act.put, z1, z2, z3, i64_w, i32_w]; rfl
    refine take_ (i := 9) (N := some 26) (v := ?_) (a' := ?_) (zm 19 2047) rfl rfl (take_ofW HT_.out HW_.out (by kernel_rfl)) (fun _ _ _ h => h) (Or.inl ⟨by rfl, ?_⟩) hHeld ?_ ?_
    rotate_left
    ·
     rintro w' ⟨s0, s1, s2, s3, s4, s5, s6, s7, s8, s9⟩
     go_simp
     with_reducible rfl
    rotate_left
    · simp only [Act.put, z1, z2, z3, i64_w, i32_w]; rfl
    refine zp 11 28 (zm 19 4095) ?_
    refine zp 12 29 (zm 19 8191) ?_
    refine take_ (i := 13) (N := some 30) (v := ?_) (a' := ?_) (zm 19 16383) rfl rfl (take_ofW HT_.out HW_.out (by kernel_rfl)) (fun _ _ _ h => h) (Or.inl ⟨by rfl, ?_⟩) hHeld ?_ ?_
    rotate_left
    ·
     rintro w' ⟨s0, s1, s2, s3, s4, s5, s6, s7, s8, s9⟩
     go_simp
     with_reducible rfl
    rotate_left
    · simp only [Act.put, z1, z2, z3, i64_w, i32_w]; rfl
    refine zp 14 31 (zm 19 32767) ?_
    refine one_ (i := 15) (N := some 32) (zm 19 65535) rfl rfl (one_of HT_.out (by kernel_rfl)) (by decide) (fun K hK => ?_)
    refine value_ (w1 := ?_) (v := ?_) (by rfl) rfl ?_ ?_
    rotate_left 2
    ·
     go_simp
     constructor
     · rfl
     · rfl
    refine hK.out _ _ ⟨(bkc (blk_alloc BK182.out _) 0).trans rfl, (bkc (blk_alloc BK182.out _) 1).trans rfl, (bkc (blk_alloc BK182.out _) 2).trans rfl, (bkc (blk_alloc BK180.out _) 0).trans rfl, (bkc (blk_alloc BK180.out _) 1).trans rfl, (bkc (blk_alloc BK180.out _) 2).trans rfl, (World.cell?_alloc_lt _ _ _ (World.block_lt_of_cell? _ _ ((zL HB hw183_0)))).trans ((zL HB hw183_0)), (World.cell?_alloc_lt _ _ _ (World.block_lt_of_cell? _ _ ((zL HB hw183_1)))).trans ((zL HB hw183_1)), (World.cell?_alloc_lt _ _ _ (World.block_lt_of_cell? _ _ ((zL HB hw184_0)))).trans ((zL HB hw184_0)), (World.cell?_alloc_lt _ _ _ (World.block_lt_of_cell? _ _ ((zL HB hw184_1)))).trans ((zL HB hw184_1))⟩ (fun hHeld => ?_)
    clear hK K
    refine norm_ (a' := ?_) ?_ ?_
    rotate_left
    ·
     show Act.put _ (some 32) _ = _
     simp only [Act.put, z1, z2, z3, i64_w, i32_w]
     rfl
    refine one_ (i := 16) (N := some 33) (zm 19 131071) rfl rfl (one_of HT_.out (by kernel_rfl)) (by decide) (fun K hK => ?_)
    refine Kd.R_append_step k78 (w0 := w) w.heap.size (by rfl) (.tmp 18) (.tmp 32) 39 78 (.agg #[(.int .i64 0), (.int .i64 0)]) 16 rfl Tryz.underlying39 info78 rfl (by decide) (by omega) u183002 x183002_1 (⟨(rTR l0_2 x4_1).f0, (rTR l0_2 x4_1).f1⟩ : S78) [.int .i64 ((rTR l0_2 x4_1).f0), .int .i64 ((rTR l0_2 x4_1).f1)] (fun _ => True) (fun _ => False) rfl rfl ?aP (fun _ hk => hk.elim) ?aF ?aO ?aB ?aS ?aL ?_
    (case aP => exact k78_mkM _ _ _ (⟨(rTR l0_2 x4_1).f0, (rTR l0_2 x4_1).f1⟩ : S78))
    (case aB => exact zB)
    (case aF => exact (fun _ _ => trivial))
    (case aO => exact (zR HO_183002))
    (case aS => exact (bsz zB))
    (case aL => have := LMc12.out; omega)
    intro v186 w17 ho hb hg hat
    rw [← Ny185.out] at ho
    replace BK180 := Zs.mk (blk_grown (g := gb180) (o := .cells #[.int .i64 a0_0, .int .i64 a0_1, .slice (some ad183) l0_2.length c0_2] 30 (0, 0)) (zK BK180) hg (Kd.R_ne HO_183002.out BK180.out (by decide))); replace BK181 := Zs.mk (blk_grown (g := gb181) (o := .cells #[.int .i64 0, .int .i64 0, .slice none 0 0] 41 (0, 0)) (zK BK181) hg (Kd.R_ne HO_183002.out BK181.out (by decide))); replace BK182 := Zs.mk (blk_grown (g := gb182) (o := .cells #[.int .i64 a0_0, .int .i64 a0_1, u183002] 41 (0, 0)) (zK BK182) hg (Kd.R_ne HO_183002.out BK182.out (by decide))); replace HB := Zs.mk (hb); have HO187 := Zs.mk (ho); clear HO_183002; clear ho hb hg hat; obtain ⟨Ao18, co18, eo18⟩ := Kd.R_slice HO187.out
    (first | subst eo18 | (injection eo18 with f1_ f2_ f3_; have f4_ := f1_.symm; have f5_ := f3_.symm; clear f1_ f2_ f3_; subst f4_; subst f5_))
    refine hK.out _ _ ⟨(bkc BK182.out 0).trans rfl, (bkc BK182.out 1).trans rfl, (bkc BK182.out 2).trans rfl, (bkc BK180.out 0).trans rfl, (bkc BK180.out 1).trans rfl, (bkc BK180.out 2).trans rfl, (zL HB hw183_0), (zL HB hw183_1), (zL HB hw184_0), (zL HB hw184_1)⟩ (fun hHeld => ?_)
    clear hK K
    refine norm_ (a' := ?_) ?_ ?_
    rotate_left
    ·
     show Act.put _ (some 33) _ = _
     simp only [Act.put, z1, z2, z3, i64_w, i32_w]
     rfl
    refine zp 17 34 (zm 19 262143) ?_
    refine last_ (i := 18) (N := none) (zm 19 524287) rfl rfl (one_of HT_.out (by kernel_rfl)) (by decide) (fun K hK => ?_)
    have hs19 : w17.cell? ⟨gb182, 2, none⟩ = some (u183002) := (bkc BK182.out 2).trans rfl; have hfs19 := bkf BK182.out 2; have hns19_0 := NB180_182.out; have hns19_1 := NB181_182.out; have hms19_0 := NB182_180.out; have hms19_1 := NB182_181.out
    refine skip_ (w1 := ?_) (by rfl) rfl ?_ ?_
    rotate_left
    · go_simp; rfl
    refine hK.out _ _ ?_
    clear hK K
    refine done_ (done_of HT_.out (by kernel_rfl)) ?_
    try go_wp2
    go_roundg k1
    case measure => have := HK1.out; omega
    case rel => exact ⟨(wrap64 (x4_1 + 1)), (y185), (.slice Ao18 y185.length co18), zs, H', ⟨by have := HK1.out; omega⟩, ⟨by (with_reducible repeat (first | apply Kd.Ral | apply Kd.Rdn | apply Kd.Rdw)); exact Kd.R_mono (Kd.R_far (p := ⟨gb182, 2, none⟩) (Kd.Rty HO187.out BK182.out (by decide)) (fun _ hk => hk.2) (.slice Ao18 y185.length co18)) (fun _ hk => trivial)⟩, ⟨zF BK180⟩, ⟨zF BK181⟩, ⟨zY BK182⟩, ⟨zB⟩⟩
   ·
    rw [if_neg c10] at H
    have c10b0 := decide_eq_false c10; clear c10
    simp only [Option.some.injEq, Prod.mk.injEq] at H
    obtain ⟨rfl, rfl, rfl⟩ := H; have hnb20 := NB180_181.out; have hnc20 := NB181_180.out; have hnb21 := NB180_182.out; have hnc21 := NB182_180.out; obtain ⟨hcz22_0, hcz22_1, hcz22_2⟩ := zC3 BK180; obtain ⟨hfz22_0, hfz22_1, hfz22_2⟩ := zZ3 BK180; have hnb23 := NB182_181.out; have hnc23 := NB181_182.out; obtain ⟨hcz24_0, hcz24_1, hcz24_2⟩ := zC3 BK182; obtain ⟨hfz24_0, hfz24_1, hfz24_2⟩ := zZ3 BK182; obtain ⟨hcz25_0, hcz25_1, hcz25_2⟩ := zC3 BK181; obtain ⟨hfz25_0, hfz25_1, hfz25_2⟩ := zZ3 BK181; obtain ⟨Ao26, co26, eo26⟩ := Kd.R_slice HO_183002.out; subst eo26
    go_wp2
    refine bodyPost_ret (results_cell_row rfl _ _ gb181 41 #[.int .i64 a0_0, .int .i64 a0_1, .slice Ao26 x183002_1.length co26] (0, 0) _ rfl (zY BK181) Tryz.underlying41 rfl (by kernel_rfl)) rfl ?_
    exact ⟨_, zE, by (with_reducible repeat (first | apply Kd.Ral | apply Kd.Rdn | apply Kd.Rdw)); exact Kd.R_mono (Kd.R_far (p := ⟨gb181, 2, none⟩) (Kd.R_far (p := ⟨gb181, 1, none⟩) (Kd.R_far (p := ⟨gb181, 0, none⟩) (Kd.Rty HO_183002.out BK181.out (by decide)) (fun _ hk => hk.2) (.int .i64 a0_0)) (fun _ hk => hk.2) (.int .i64 a0_1)) (fun _ hk => hk.2) (.slice Ao26 x183002_1.length co26)) (fun _ hk => trivial), zB⟩
end
end Go.Proofs.YtndojpcjhkncgaaGreatDoor.Q
end
section
namespace Go.Proofs.YtndojpcjhkncgaaGreatDoor.Q
open Go.RowKit Go.Proofs.YtndojpcjhkncgaaGreatDoorW.PrintWords
section
theorem old_l0 (L : List S49) (n d : Int) (hL : L.length < 8796093022208) (dd : Nat) : ∀ (i : Nat) (s : List S78), i + dd = L.length → s.length = i →
    Ev (fun k => aL_old.l0 k (i : Int) n d L n d s) (n, d, s ++ (L.drop i).map asRef) := by
  induction dd with
  | zero =>
    intro i s hi hs
    rw [List.drop_eq_nil_of_le (by omega)]
    exact Ev.step (fun k => by rw [aL_old.l0]) (Ev.neg (by omega) (Ev.ret (by simp)))
  | succ dd ih =>
    intro i s hi hs
    have hlt : i < L.length := by omega
    rw [drop_get L i hlt]
    refine Ev.step (fun k => by rw [aL_old.l0]) (Ev.pos (by omega) (Ev.pos (by omega) (Ev.pos (by omega) ?_)))
    rw [rdR L i hlt, w64 (by omega) (by omega)]
    refine Ev.eq (ih (i + 1) (s ++ [(⟨L[i].f0, L[i].f1⟩ : S78)]) (by omega) (by simp; omega)) ?_
    show (n, d, (s ++ [asRef L[i]]) ++ (L.drop (i + 1)).map asRef) = (n, d, s ++ (L[i] :: L.drop (i + 1)).map asRef)
    rw [List.map_cons, List.append_assoc]
    rfl
theorem old_ev (n d : Int) (L : List S49) (hL : L.length < 8796093022208) : Ev (fun k => aL_old.f k n d L) (n, d, L.map asRef) := by
  unfold aL_old.f
  exact old_l0 L n d hL L.length 0 [] (by omega) rfl
theorem same_l0 (L : List S47) (hL : (L.length : Int) ≤ 4611686018427387904) (d : Nat) : ∀ (i : Nat), i + d = L.length → Ev (fun k => aL_sameOrders.l0 k L L (i : Int)) true := by
  induction d with
  | zero => intro i hi; exact Ev.step (fun k => by rw [aL_sameOrders.l0]) (Ev.neg (by omega) (Ev.now _))
  | succ d ih =>
    intro i hi
    refine Ev.step (fun k => by rw [aL_sameOrders.l0]) (Ev.pos (by omega) (Ev.pos (by omega) (Ev.pos (by omega) (Ev.neg (by simp) ?_))))
    rw [w64 (by omega) (by omega)]
    exact ih (i + 1) (by omega)
theorem same_ev (L : List S47) (hL : (L.length : Int) ≤ 4611686018427387904) : Ev (fun k => aL_sameOrders.f k L L) true := by
  unfold aL_sameOrders.f
  exact Ev.pos rfl (same_l0 L hL L.length 0 (by omega))
theorem sameFile_ev (n d : Int) (L : List S47) (hL : (L.length : Int) ≤ 4611686018427387904) : Ev (fun k => aL_sameFile.f k n d L n d L) true := by
  unfold aL_sameFile.f
  exact Ev.pos rfl (Ev.pos rfl (Ev.bind (same_ev L hL) (Ev.now true)))
theorem sameA_l0 (n d : Int) (L : List S78) (hL : (L.length : Int) ≤ 4611686018427387904) (dd : Nat) : ∀ (i : Nat), i + dd = L.length → Ev (fun k => aL_sameAnswer.l0 k (i : Int) n d L n d L) true := by
  induction dd with
  | zero => intro i hi; exact Ev.step (fun k => by rw [aL_sameAnswer.l0]) (Ev.neg (by omega) (Ev.now _))
  | succ dd ih =>
    intro i hi
    refine Ev.step (fun k => by rw [aL_sameAnswer.l0]) (Ev.pos (by omega) (Ev.pos (by omega) (Ev.pos (by omega) (Ev.neg (by simp) ?_))))
    rw [w64 (by omega) (by omega)]
    exact ih (i + 1) (by omega)
theorem sameAnswer_ev (n d : Int) (L : List S78) (hL : (L.length : Int) ≤ 4611686018427387904) : Ev (fun k => aL_sameAnswer.f k n d L n d L) true := by
  unfold aL_sameAnswer.f
  refine Ev.pos rfl (Ev.pos rfl (Ev.step (fun k => by rw [aL_sameAnswer.j0]) (Ev.neg (by simp) ?_)))
  exact sameA_l0 n d L hL L.length 0 (by omega)
end
end Go.Proofs.YtndojpcjhkncgaaGreatDoor.Q
end
section
namespace Go.Proofs.YtndojpcjhkncgaaGreatDoor.Q
open Go.RowKit Go.Proofs.YtndojpcjhkncgaaGreatDoorW.PrintWords Go.Proofs.YtndojpcjhkncgaaGreatDoorW.PrintLast Go.Proofs.YtndojpcjhkncgaaGreatDoorW.PrintMore
section
def bank_Match_1.f (a0_0 : Int) (a0_1 : Int) (a0_2 : Int) (a0_3 : Int) (a0_4 : Int) (a1 : Int) : Option (Int) := some (wrap64 (a0_0 - a1))
set_option maxHeartbeats 8000000 in
set_option maxRecDepth 100000 in
theorem bank_Match_1.calls (a0_0 : Int) (a0_1 : Int) (a0_2 : Int) (a0_3 : Int) (a0_4 : Int) (a1 : Int) (r : Int) (w : World) (h : bank_Match_1.f a0_0 a0_1 a0_2 a0_3 a0_4 a1 = some r) :
  Calls Tryz.prog 56 #[.agg #[.int .i64 a0_0, .int .i64 a0_1, .int .i64 a0_2, .int .i64 a0_3, .int .i64 a0_4], .int .i64 a1] w fun e w' => e = .returned (.int .i64 r) ∧ Below w.heap.size w w' := by
 have hu47 := Tryz.underlying47; have HB := Zs.mk (Below.refl w.heap.size w); have H : (some (wrap64 (a0_0 - a1))) = some r := h; clear h; obtain rfl := Option.some.inj H
 go_enter Tryz.func56, Tryz.ntmps56
 go_wp2_with (first | ((with_reducible refine gkd (N := 2) rfl ?_); refine bxe ?hg (N := 2) ?hd (cs := #[.int .i64 a0_0, .int .i64 a0_1, .int .i64 a0_2, .int .i64 a0_3, .int .i64 a0_4]) (t := 47) ?hr ?_; (case hd => rfl); (case hg => rfl); (case hr => first | (go_simp; done) | (go_simp; rfl)); intro gb135 hg w3 hbox hb; have BK135 := Zs.mk (hbox); have GW135 := zG (w := w) hg; have GE135 := zG (w := w) hg; replace HB := zBs hb; clear hb hbox hg; obtain ⟨hcz4_0, hcz4_1, hcz4_2, hcz4_3, hcz4_4⟩ := zC5 BK135; obtain ⟨hfz4_0, hfz4_1, hfz4_2, hfz4_3, hfz4_4⟩ := zZ5 BK135))
 go_ret
 exact ⟨zE, zB⟩
end
section
def aoi.l0 : Nat → List (S47) → Int → Int → Int → Int → Option (Int × Bool)
 | 0, _, _, _, _, _ => none
 | k + 1, x0, x1, x8, x9, x10 => if x9 < x10 then (if 0 ≤ (wrap64 ((IntKind.u64.wrap (wrap64 (x9 + x10))) / 2)) then (if (wrap64 ((IntKind.u64.wrap (wrap64 (x9 + x10))) / 2)) < (x0.length : Int) then ((bank_Match_1.f ((rTO x0 (wrap64 ((IntKind.u64.wrap (wrap64 (x9 + x10))) / 2))).f0) ((rTO x0 (wrap64 ((IntKind.u64.wrap (wrap64 (x9 + x10))) / 2))).f1) ((rTO x0 (wrap64 ((IntKind.u64.wrap (wrap64 (x9 + x10))) / 2))).f2) ((rTO x0 (wrap64 ((IntKind.u64.wrap (wrap64 (x9 + x10))) / 2))).f3) ((rTO x0 (wrap64 ((IntKind.u64.wrap (wrap64 (x9 + x10))) / 2))).f4) x1).bind fun t137 => (if t137 < 0 then (aoi.l0 k x0 x1 x8 (wrap64 ((wrap64 ((IntKind.u64.wrap (wrap64 (x9 + x10))) / 2)) + 1)) x10) else (aoi.l0 k x0 x1 x8 x9 (wrap64 ((IntKind.u64.wrap (wrap64 (x9 + x10))) / 2))))) else (none)) else (none)) else (if x9 < x8 then (if 0 ≤ x9 then (if x9 < (x0.length : Int) then ((bank_Match_1.f ((rTO x0 x9).f0) ((rTO x0 x9).f1) ((rTO x0 x9).f2) ((rTO x0 x9).f3) ((rTO x0 x9).f4) x1).bind fun t139 => (some (x9, (t139 == 0)))) else (none)) else (none)) else (some (x9, false)))
def aoi.f (k : Nat) (l0 : List (S47)) (a1 : Int)  : Option (Int × Bool) := aoi.l0 k l0 a1 (l0.length : Int) 0 (l0.length : Int)
set_option maxHeartbeats 8000000 in
set_option maxRecDepth 100000 in
theorem aoi.calls (k : Nat) (A0 : Option Addr) (c0 : Nat) (l0 : List (S47)) (a1 : Int)  (r1 : Int) (r2 : Bool) (w : World) (hr0 : Kd.C k47 w A0 l0.length l0) (hc0 : l0.length ≤ c0) (h : aoi.f k l0 a1 = some (r1, r2)) :
  Calls Tryz.prog 55 #[.slice A0 l0.length c0, .int .i64 a1, .func (.func 56) #[] #[]] w fun e w' => e = .returned (.tuple #[.int .i64 r1, .bool r2]) ∧ Below w.heap.size w w' := by
 have hu47 := Tryz.underlying47; have HR0 := Zs.mk hr0; have HC0 := Zs.mk hc0; clear hr0 hc0; have HB := Zs.mk (Below.refl w.heap.size w); have H : (aoi.l0 k l0 a1 (l0.length : Int) 0 (l0.length : Int)) = some (r1, r2) := h; clear h; have H' := Zs.mk H; clear H
 go_enter Tryz.func55, Tryz.ntmps55
 go_wp2
 go_loopg [9, 10] k (fun kq v9 v10 w' => ∃ (x9_1 : Int) (x10_1 : Int), v9 = .int .i64 x9_1 ∧ v10 = .int .i64 x10_1 ∧ Zs (aoi.l0 kq l0 a1 (l0.length : Int) x9_1 x10_1 = some (r1, r2)) ∧ Zs (kq ≤ k) ∧ Zs (Below w.heap.size w w'))
 case atStart => exact ⟨(0), ((l0.length : Int)), zs, zs, H', ⟨Nat.le_refl _⟩, ⟨zB⟩⟩
 case round =>
  clear H'
  obtain ⟨x9_1, x10_1, rfl, rfl, HA, HK1, HB⟩ := hrel
  cases gk with
  | zero => exact absurd HA.out (by simp [aoi.l0])
  | succ k1 =>
   have H := HA.out; clear HA
   simp only [aoi.l0] at H
   by_cases c4 : x9_1 < x10_1
   ·
    rw [if_pos c4] at H
    have c4b0 := decide_eq_true c4; clear c4
    obtain ⟨ji5, hji5⟩ : ∃ j_ : Int, (wrap64 ((IntKind.u64.wrap (wrap64 (x9_1 + x10_1))) / 2)) = j_ := ⟨_, rfl⟩
    replace H : (if 0 ≤ (ji5) then (if (ji5) < (l0.length : Int) then ((bank_Match_1.f ((rTO l0 (ji5)).f0) ((rTO l0 (ji5)).f1) ((rTO l0 (ji5)).f2) ((rTO l0 (ji5)).f3) ((rTO l0 (ji5)).f4) a1).bind fun t137 => (if t137 < 0 then (aoi.l0 k1 l0 a1 (l0.length : Int) (wrap64 ((ji5) + 1)) x10_1) else (aoi.l0 k1 l0 a1 (l0.length : Int) x9_1 ji5))) else (none)) else (none)) = some (r1, r2) := by first | (rw [hji5] at H; exact H) | (simp only [hji5] at H ⊢; exact H)
    have hji5w : (IntKind.i64.wrap ((IntKind.u64.wrap (wrap64 (x9_1 + x10_1))) / 2)) = ji5 := (i64_w _).trans hji5
    have c6 := zc H
    rw [if_pos c6] at H
    have c6b0 := decide_eq_true c6; clear c6
    have c7 := zc H
    rw [if_pos c7] at H
    have c7b0 := decide_eq_true c7; clear c7; obtain ⟨t137, A8, H⟩ := zb H; (try dsimp only [-Int.reduceToNat] at H)
    by_cases c9 : t137 < 0
    ·
     rw [if_pos c9] at H
     have c9b0 := decide_eq_true c9; clear c9; have H' := Zs.mk H; clear H; have p136 : 0 ≤ ((ji5) : Int) := zD; have q136 : (ji5) < (l0.length : Int) := zD; obtain ⟨ad136, e136, hx136_0, hx136_1, hx136_2, hx136_3, hx136_4⟩ := at_T47 HR0.out (ji5) p136 q136
     cases e136
     replace hx136_0 := zL HB hx136_0; replace hx136_1 := zL HB hx136_1; replace hx136_2 := zL HB hx136_2; replace hx136_3 := zL HB hx136_3; replace hx136_4 := zL HB hx136_4; replace p136 := eq_true p136; replace q136 := eq_true q136
     go_wp2_with (first | (go_at_call 56; (with_reducible refine (bank_Match_1.calls ((rTO l0 (ji5)).f0) ((rTO l0 (ji5)).f1) ((rTO l0 (ji5)).f2) ((rTO l0 (ji5)).f3) ((rTO l0 (ji5)).f4) a1 t137 _ A8.out).mono ?_); rintro e w10 ⟨rfl, hb⟩; replace HB := zBs hb))
     go_roundg k1
     case measure => have := HK1.out; omega
     case rel => exact ⟨(wrap64 ((ji5) + 1)), (x10_1), (by first | rfl | (simp; done) | (simp only [← hji5] <;> (first | rfl | simp)) | (simp [*]; done)), zs, H', ⟨by have := HK1.out; omega⟩, ⟨zB⟩⟩
    ·
     rw [if_neg c9] at H
     have c9b0 := decide_eq_false c9; clear c9; have H' := Zs.mk H; clear H; have p136 : 0 ≤ ((ji5) : Int) := zD; have q136 : (ji5) < (l0.length : Int) := zD; obtain ⟨ad136, e136, hx136_0, hx136_1, hx136_2, hx136_3, hx136_4⟩ := at_T47 HR0.out (ji5) p136 q136
     cases e136
     replace hx136_0 := zL HB hx136_0; replace hx136_1 := zL HB hx136_1; replace hx136_2 := zL HB hx136_2; replace hx136_3 := zL HB hx136_3; replace hx136_4 := zL HB hx136_4; replace p136 := eq_true p136; replace q136 := eq_true q136
     go_wp2_with (first | (go_at_call 56; (with_reducible refine (bank_Match_1.calls ((rTO l0 (ji5)).f0) ((rTO l0 (ji5)).f1) ((rTO l0 (ji5)).f2) ((rTO l0 (ji5)).f3) ((rTO l0 (ji5)).f4) a1 t137 _ A8.out).mono ?_); rintro e w11 ⟨rfl, hb⟩; replace HB := zBs hb))
     go_roundg k1
     case measure => have := HK1.out; omega
     case rel => exact ⟨(x9_1), (ji5), zs, (by first | rfl | (simp; done) | (simp only [← hji5] <;> (first | rfl | simp)) | (simp [*]; done)), H', ⟨by have := HK1.out; omega⟩, ⟨zB⟩⟩
   ·
    rw [if_neg c4] at H
    have c4b0 := decide_eq_false c4; clear c4
    by_cases c12 : x9_1 < (l0.length : Int)
    ·
     rw [if_pos c12] at H
     have c12b0 := decide_eq_true c12; clear c12
     have c13 := zc H
     rw [if_pos c13] at H
     have c13b0 := decide_eq_true c13; clear c13
     have c14 := zc H
     rw [if_pos c14] at H
     have c14b0 := decide_eq_true c14; clear c14; replace H := Option.bind_eq_some_iff.mp H; obtain ⟨t139, A150, H⟩ := H; replace H : (some (x9_1, (t139 == 0))) = some (r1, r2) := H; have A15 := Zs.mk A150; clear A150
     simp only [Option.some.injEq, Prod.mk.injEq] at H
     obtain ⟨rfl, rfl⟩ := H; have p138 : 0 ≤ (x9_1 : Int) := zD; have q138 : x9_1 < (l0.length : Int) := zD; obtain ⟨ad138, e138, hx138_0, hx138_1, hx138_2, hx138_3, hx138_4⟩ := at_T47 HR0.out x9_1 p138 q138
     cases e138
     replace hx138_0 := zL HB hx138_0; replace hx138_1 := zL HB hx138_1; replace hx138_2 := zL HB hx138_2; replace hx138_3 := zL HB hx138_3; replace hx138_4 := zL HB hx138_4; replace p138 := eq_true p138; replace q138 := eq_true q138
     go_wp2_with (first | (go_at_call 56; (with_reducible refine (bank_Match_1.calls ((rTO l0 x9_1).f0) ((rTO l0 x9_1).f1) ((rTO l0 x9_1).f2) ((rTO l0 x9_1).f3) ((rTO l0 x9_1).f4) a1 t139 _ A15.out).mono ?_); rintro e w16 ⟨rfl, hb⟩; replace HB := zBs hb))
     go_ret2
     exact ⟨zE, zB⟩
    ·
     rw [if_neg c12] at H
     have c12b0 := decide_eq_false c12; clear c12
     simp only [Option.some.injEq, Prod.mk.injEq] at H
     obtain ⟨rfl, rfl⟩ := H
     go_wp2
     go_ret2
     exact ⟨zE, zB⟩
end
section
mutual
def bank_Match.j0 : Nat → Bool → Int → Int → List (S47) → Int → Int → List (S49) → Option ((List (S47)) × Int)
 | 0, _, _, _, _, _, _, _ => none
 | k + 1, x11, x141000, x141001, x141002, x142000, x142001, x142002 => if x11 = true then (some (([] : List (S47)), 2)) else (if x141000 = x142000 then (if x142001 < x141001 then (some (([] : List (S47)), 363)) else (bank_Match.l0 k ([] : List (S47)) x142002 (x142002.length : Int) 0 x141000 x141001 x141002)) else (some (([] : List (S47)), 363)))
def bank_Match.l0 : Nat → List (S47) → List (S49) → Int → Int → Int → Int → List (S47) → Option ((List (S47)) × Int)
 | 0, _, _, _, _, _, _, _ => none
 | k + 1, x6, x34, x35, x36, x141000, x141001, x141002 => if x36 < x35 then (if 0 ≤ x36 then (if x36 < (x34.length : Int) then ((aoi.f k x141002 ((rTR x34 x36).f0)).bind fun bt146 => (if bt146.2 = true then (if 0 ≤ bt146.1 then (if bt146.1 < (x141002.length : Int) then (if x6.length < 3518437208883 then (bank_Match.l0 k (x6 ++ [(⟨(rTO x141002 bt146.1).f0, (rTO x141002 bt146.1).f1, (rTO x141002 bt146.1).f2, (rTO x141002 bt146.1).f3, (rTO x141002 bt146.1).f4⟩ : S47)]) x34 x35 (wrap64 (x36 + 1)) x141000 x141001 x141002) else (none)) else (none)) else (none)) else (some (([] : List (S47)), 6)))) else (none)) else (none)) else (some (x6, 0))
end
def bank_Match.f (k : Nat) (a0_0 : Int) (a0_1 : Int) (l0_2 : List (S47)) (a1_0 : Int) (a1_1 : Int) (l1_2 : List (S49)) : Option ((List (S47)) × Int) := (bank_Valid.f k a0_0 a0_1 l0_2).bind fun t142 => (if t142 = true then ((bank_Right.f k a1_0 a1_1 l1_2).bind fun t143 => (bank_Match.j0 k (!t143) a0_0 a0_1 l0_2 a1_0 a1_1 l1_2)) else (bank_Match.j0 k true a0_0 a0_1 l0_2 a1_0 a1_1 l1_2))
set_option maxHeartbeats 8000000 in
set_option maxRecDepth 100000 in
theorem bank_Match.calls (k : Nat) (a0_0 : Int) (a0_1 : Int) (A0_2 : Option Addr) (c0_2 : Nat) (l0_2 : List (S47)) (a1_0 : Int) (a1_1 : Int) (A1_2 : Option Addr) (c1_2 : Nat) (l1_2 : List (S49)) (r1 : List (S47)) (r2 : Int) (w : World) (hr0_2 : Kd.C k47 w A0_2 l0_2.length l0_2) (hc0_2 : l0_2.length ≤ c0_2) (hr1_2 : Kd.C k49 w A1_2 l1_2.length l1_2) (hc1_2 : l1_2.length ≤ c1_2) (h : bank_Match.f k a0_0 a0_1 l0_2 a1_0 a1_1 l1_2 = some (r1, r2)) :
  Calls Tryz.prog 31 #[.agg #[.int .i64 a0_0, .int .i64 a0_1, .slice A0_2 l0_2.length c0_2], .agg #[.int .i64 a1_0, .int .i64 a1_1, .slice A1_2 l1_2.length c1_2]] w fun e w' => ∃ v0_ : Value, e = .returned (.tuple #[v0_, .int .i64 r2]) ∧ Kd.R k47 47 w' w.heap.size (fun _ => True) v0_ r1 ∧ Below w.heap.size w w' := by
 have hu27 := Tryz.underlying27; have hu30 := Tryz.underlying30; have hu49 := Tryz.underlying49; have hu47 := Tryz.underlying47; have HR0_2 := Zs.mk hr0_2; have HC0_2 := Zs.mk hc0_2; clear hr0_2 hc0_2; have HR1_2 := Zs.mk hr1_2; have HC1_2 := Zs.mk hc1_2; clear hr1_2 hc1_2; have HB := Zs.mk (Below.refl w.heap.size w); have H : ((bank_Valid.f k a0_0 a0_1 l0_2).bind fun t142 => (if t142 = true then ((bank_Right.f k a1_0 a1_1 l1_2).bind fun t143 => (bank_Match.j0 k (!t143) a0_0 a0_1 l0_2 a1_0 a1_1 l1_2)) else (bank_Match.j0 k true a0_0 a0_1 l0_2 a1_0 a1_1 l1_2))) = some (r1, r2) := h; clear h; have HC3 := Zs.mk H; clear H
 go_enter Tryz.func31, Tryz.ntmps31
 go_upto_region 1 with (first | ((with_reducible refine gkd (N := 2) rfl ?_); refine bxe ?hg (N := 2) ?hd (cs := #[.int .i64 a0_0, .int .i64 a0_1, .slice A0_2 l0_2.length c0_2]) (t := 27) ?hr ?_; (case hd => rfl); (case hg => rfl); (case hr => first | (go_simp; done) | (go_simp; rfl)); intro gb140 hg w4 hbox hb; have BK140 := Zs.mk (hbox); have GW140 := zG (w := w) hg; have GE140 := zG (w := w) hg; replace HB := zBs hb; clear hb hbox hg) | ((with_reducible refine gkd (N := 3) rfl ?_); refine bxe ?hg (N := 3) ?hd (cs := #[.int .i64 a1_0, .int .i64 a1_1, .slice A1_2 l1_2.length c1_2]) (t := 30) ?hr ?_; (case hd => rfl); (case hg => rfl); (case hr => first | (go_simp; done) | (go_simp; rfl)); intro gb141 hg w5 hbox hb; have BK141 := Zs.mk (hbox); have GW141 := zG (w := w) hg; have GE141 := zG (w := w) hg; replace HB := zBs hb; have NB140_141 := zN hg (zK BK140); have NB141_140 := zM hg (zK BK140); replace BK140 := zKb BK140 hb; clear hb hbox hg))
 (try simp only [Act.put, List.setIfInBounds_toArray, List.set_cons_zero, List.set_cons_succ])
 go_cut [11] (fun v11 wc => ∃ (kq : Nat) (x11_2 : Bool), v11 = .bool x11_2 ∧ Zs (bank_Match.j0 kq x11_2 a0_0 a0_1 l0_2 a1_0 a1_1 l1_2 = some (r1, r2)) ∧ Zs (kq ≤ k) ∧ Zs (wc.heap[gb140]? = some (.cells #[.int .i64 a0_0, .int .i64 a0_1, (.slice A0_2 l0_2.length c0_2)] 27 (0, 0))) ∧ Zs (wc.heap[gb141]? = some (.cells #[.int .i64 a1_0, .int .i64 a1_1, (.slice A1_2 l1_2.length c1_2)] 30 (0, 0))) ∧ Zs (Below w.heap.size w wc))
 case first =>
  have H := HC3.out; clear HC3; obtain ⟨t142, A6, H⟩ := zb H; (try dsimp only [-Int.reduceToNat] at H)
  by_cases c7 : t142 = true
  ·
   subst c7
   rw [if_pos rfl] at H
   obtain ⟨t143, A8, H⟩ := zb H; (try dsimp only [-Int.reduceToNat] at H); have H' := Zs.mk H; clear H; have hnb9 := NB140_141.out; have hnc9 := NB141_140.out; obtain ⟨hcz10_0, hcz10_1, hcz10_2⟩ := zC3 BK140; obtain ⟨hfz10_0, hfz10_1, hfz10_2⟩ := zZ3 BK140
   go_wp2_with (first | ((with_reducible refine gkc (f := 22) rfl ?_); refine zgo (some 13) Tryz.func22 #[.agg #[.int .i64 a0_0, .int .i64 a0_1, .slice A0_2 l0_2.length c0_2]] ?_; (with_reducible refine (bank_Valid.calls k a0_0 a0_1 _ _ l0_2 true _ ?side1 ?side2 A6.out).mono ?_); (case side1 => exact zQC HR0_2); (case side2 => exact HC0_2.out); rintro e w11 ⟨rfl, hb⟩; refine ⟨_, rfl, ?_⟩; replace BK140 := zKb BK140 hb; replace BK141 := zKb BK141 hb; replace HB := zBs hb; obtain ⟨hcz12_0, hcz12_1, hcz12_2⟩ := zC3 BK141; obtain ⟨hfz12_0, hfz12_1, hfz12_2⟩ := zZ3 BK141) | (go_at_call 28; (with_reducible refine (bank_Right.calls k a1_0 a1_1 _ _ l1_2 t143 _ ?side1 ?side2 A8.out).mono ?_); (case side1 => exact zQC HR1_2); (case side2 => exact HC1_2.out); rintro e w13 ⟨rfl, hb⟩; replace BK140 := zKb BK140 hb; replace BK141 := zKb BK141 hb; replace HB := zBs hb))
   go_meet
   case rel => exact ⟨_, (!t143), zs, H', ⟨by first | omega | exact Nat.le_refl _⟩, ⟨zK BK140⟩, ⟨zK BK141⟩, ⟨zB⟩⟩
  ·
   replace c7 := Bool.eq_false_iff.mpr c7; subst c7
   rw [if_neg (show ¬ (false = true) by decide)] at H
   have H' := Zs.mk H; clear H; have hnb14 := NB140_141.out; have hnc14 := NB141_140.out; obtain ⟨hcz15_0, hcz15_1, hcz15_2⟩ := zC3 BK140; obtain ⟨hfz15_0, hfz15_1, hfz15_2⟩ := zZ3 BK140
   go_wp2_with (first | ((with_reducible refine gkc (f := 22) rfl ?_); refine zgo (some 13) Tryz.func22 #[.agg #[.int .i64 a0_0, .int .i64 a0_1, .slice A0_2 l0_2.length c0_2]] ?_; (with_reducible refine (bank_Valid.calls k a0_0 a0_1 _ _ l0_2 false _ ?side1 ?side2 A6.out).mono ?_); (case side1 => exact zQC HR0_2); (case side2 => exact HC0_2.out); rintro e w16 ⟨rfl, hb⟩; refine ⟨_, rfl, ?_⟩; replace BK140 := zKb BK140 hb; replace BK141 := zKb BK141 hb; replace HB := zBs hb))
   go_meet
   case rel => exact ⟨_, (true), zs, H', ⟨by first | omega | exact Nat.le_refl _⟩, ⟨zK BK140⟩, ⟨zK BK141⟩, ⟨zB⟩⟩
 case rest =>
  clear HC3
  obtain ⟨kq, x11_2, rfl, HA, HJ2, BK140, BK141, HB⟩ := hcut
  cases kq with
  | zero => exact absurd HA.out (by simp [bank_Match.j0])
  | succ kj2 =>
   have H := HA.out; clear HA
   simp only [bank_Match.j0] at H
   by_cases c17 : x11_2 = true
   ·
    subst c17
    rw [if_pos rfl] at H
    simp only [Option.some.injEq, Prod.mk.injEq] at H
    obtain ⟨rfl, rfl⟩ := H
    go_wp2
    go_ret2
    exact ⟨_, zE, by first | exact Kd.R_nil _ _ _ _ _ | exact Kd.N_nil _ _ _ _ _ | exact Kd.V_nil _ _ _ _ _ | exact Kd.Q_nil _ _ _ _ _ | exact Kd.S_nil _ _ _ _ _, zB⟩
   ·
    replace c17 := Bool.eq_false_iff.mpr c17; subst c17
    rw [if_neg (show ¬ (false = true) by decide)] at H
    by_cases c18 : a0_0 = a1_0
    ·
     rw [if_pos c18] at H
     obtain ⟨c18b0, c18b1⟩ := zeq c18; clear c18
     by_cases c19 : a1_1 < a0_1
     ·
      rw [if_pos c19] at H
      have c19b0 := decide_eq_true c19; clear c19
      simp only [Option.some.injEq, Prod.mk.injEq] at H
      obtain ⟨rfl, rfl⟩ := H; have hnb20 := NB140_141.out; have hnc20 := NB141_140.out; obtain ⟨hcz21_0, hcz21_1, hcz21_2⟩ := zC3 BK140; obtain ⟨hfz21_0, hfz21_1, hfz21_2⟩ := zZ3 BK140; obtain ⟨hcz22_0, hcz22_1, hcz22_2⟩ := zC3 BK141; obtain ⟨hfz22_0, hfz22_1, hfz22_2⟩ := zZ3 BK141
      go_wp2
      go_ret2
      exact ⟨_, zE, by first | exact Kd.R_nil _ _ _ _ _ | exact Kd.N_nil _ _ _ _ _ | exact Kd.V_nil _ _ _ _ _ | exact Kd.Q_nil _ _ _ _ _ | exact Kd.S_nil _ _ _ _ _, zB⟩
     ·
      rw [if_neg c19] at H
      have c19b0 := decide_eq_false c19; clear c19; have H' := Zs.mk H; clear H; have hnb23 := NB140_141.out; have hnc23 := NB141_140.out; obtain ⟨hcz24_0, hcz24_1, hcz24_2⟩ := zC3 BK140; obtain ⟨hfz24_0, hfz24_1, hfz24_2⟩ := zZ3 BK140; obtain ⟨hcz25_0, hcz25_1, hcz25_2⟩ := zC3 BK141; obtain ⟨hfz25_0, hfz25_1, hfz25_2⟩ := zZ3 BK141
      go_wp2
      go_loopg [6, 36] kj2 (fun kq v6 v36 w' => ∃ (x6_2 : List (S47)) (x36_2 : Int), v36 = .int .i64 x36_2 ∧ Zs (bank_Match.l0 kq x6_2 l1_2 (l1_2.length : Int) x36_2 a0_0 a0_1 l0_2 = some (r1, r2)) ∧ Zs (kq ≤ kj2) ∧ Zs (Kd.R k47 47 w' w.heap.size (fun _ => True) v6 x6_2) ∧ Zs (w'.heap[gb140]? = some (.cells #[.int .i64 a0_0, .int .i64 a0_1, (.slice A0_2 l0_2.length c0_2)] 27 (0, 0))) ∧ Zs (w'.heap[gb141]? = some (.cells #[.int .i64 a1_0, .int .i64 a1_1, (.slice A1_2 l1_2.length c1_2)] 30 (0, 0))) ∧ Zs (Below w.heap.size w w'))
      case atStart => exact ⟨(([] : List (S47))), (0), zs, H', ⟨Nat.le_refl _⟩, ⟨by first | exact Kd.R_nil _ _ _ _ _ | exact Kd.N_nil _ _ _ _ _ | exact Kd.V_nil _ _ _ _ _ | exact Kd.Q_nil _ _ _ _ _ | exact Kd.S_nil _ _ _ _ _⟩, ⟨zK BK140⟩, ⟨zK BK141⟩, ⟨zB⟩⟩
      case round =>
       clear H'
       obtain ⟨x6_2, x36_2, rfl, HA, HK2, HO_6, BK140, BK141, HB⟩ := hrel
       cases gk with
       | zero => exact absurd HA.out (by simp [bank_Match.l0])
       | succ k2 =>
        have H := HA.out; clear HA
        simp only [bank_Match.l0] at H
        by_cases c26 : x36_2 < (l1_2.length : Int)
        ·
         rw [if_pos c26] at H
         have c26b0 := decide_eq_true c26; clear c26
         have c27 := zc H
         rw [if_pos c27] at H
         have c27b0 := decide_eq_true c27; clear c27
         have c28 := zc H
         rw [if_pos c28] at H
         have c28b0 := decide_eq_true c28; clear c28; obtain ⟨⟨t146, t147⟩, A29, H⟩ := zb H; (try dsimp only [-Int.reduceToNat] at H)
         by_cases c30 : t147 = true
         ·
          subst c30
          rw [if_pos rfl] at H
          have c31 := zc H
          rw [if_pos c31] at H
          have c31b0 := decide_eq_true c31; clear c31
          have c32 := zc H
          rw [if_pos c32] at H
          have c32b0 := decide_eq_true c32; clear c32
          have c33 := zc H
          rw [if_pos c33] at H
          have LMc33 := Zs.mk c33; clear c33
          obtain ⟨y149, hy149⟩ : ∃ y_ : List (S47), y_ = (x6_2 ++ [(⟨(rTO l0_2 t146).f0, (rTO l0_2 t146).f1, (rTO l0_2 t146).f2, (rTO l0_2 t146).f3, (rTO l0_2 t146).f4⟩ : S47)]) := ⟨_, rfl⟩
          replace H : (bank_Match.l0 k2 y149 l1_2 (l1_2.length : Int) (wrap64 (x36_2 + 1)) a0_0 a0_1 l0_2) = some (r1, r2) := by first | (rw [hy149]; with_reducible exact H) | (have H2_ := (Option.bind_some _ _).symm.trans H; rw [hy149]; with_reducible exact H2_) | (have H2_ := (Option.bind_some _ _).symm.trans H; with_reducible exact H2_) | with_reducible exact H | (rw [hy149]; exact H) | exact H
          have Ny149 := Zs.mk hy149; clear hy149; have H' := Zs.mk H; clear H; have p144 : 0 ≤ (x36_2 : Int) := zD; have q144 : x36_2 < (l1_2.length : Int) := zD; obtain ⟨ad144, e144, hx144_0, hx144_1⟩ := at_T49 HR1_2.out x36_2 p144 q144
          cases e144
          replace hx144_0 := zL HB hx144_0; replace hx144_1 := zL HB hx144_1; replace p144 := eq_true p144; replace q144 := eq_true q144
          go_wp2_with (first | ((with_reducible refine gkd (N := 8) rfl ?_); refine bxe ?hg (N := 8) ?hd (cs := #[.int .i64 0, .int .i64 0]) (t := 49) ?hr ?_; (case hd => rfl); (case hg => rfl); (case hr => first | (go_simp; done) | (go_simp; rfl)); intro gb145 hg w34 hbox hb; replace HO_6 := zRb HO_6 hb; have BK145 := Zs.mk (hbox); have GW145 := zG (w := w) hg; have GE145 := zG (w := w) hg; replace HB := zBs hb; have NB140_145 := zN hg (zK BK140); have NB145_140 := zM hg (zK BK140); replace BK140 := zKb BK140 hb; have NB141_145 := zN hg (zK BK141); have NB145_141 := zM hg (zK BK141); replace BK141 := zKb BK141 hb; clear hb hbox hg; have hnb35 := NB145_140.out; have hnc35 := NB140_145.out; have hnb36 := NB145_141.out; have hnc36 := NB141_145.out; obtain ⟨hcz37_0, hcz37_1⟩ := zC2 BK145; obtain ⟨hfz37_0, hfz37_1⟩ := zZ2 BK145; have hnb38 := NB140_141.out; have hnc38 := NB141_140.out; obtain ⟨hcz39_0, hcz39_1, hcz39_2⟩ := zC3 BK140; obtain ⟨hfz39_0, hfz39_1, hfz39_2⟩ := zZ3 BK140) | ((with_reducible refine gkc (f := 55) rfl ?_); refine zgo (some 45) Tryz.func55 #[.slice A0_2 l0_2.length c0_2, .int .i64 ((rTR l1_2 x36_2).f0), .func (.func 56) #[] #[]] ?_; (with_reducible refine (aoi.calls k2 _ _ l0_2 ((rTR l1_2 x36_2).f0)  t146 true _ ?side1 ?side2 A29.out).mono ?_); (case side1 => exact Kd.C_below HR0_2.out zB); (case side2 => exact HC0_2.out); rintro e w40 ⟨rfl, hb⟩; refine ⟨_, rfl, ?_⟩; replace HO_6 := Zs.mk (Kd.R_below (by (with_reducible repeat (first | apply Kd.Ral | apply Kd.Rdn | apply Kd.Rdw)); exact (Kd.R_mono (Kd.R_far (p := ⟨gb145, 1, none⟩) (Kd.R_far (p := ⟨gb145, 0, none⟩) (Kd.Rty HO_6.out BK145.out (by decide)) (fun _ hk => hk.2) (.int .i64 ((rTR l1_2 x36_2).f0))) (fun _ hk => hk.2) (.int .i64 ((rTR l1_2 x36_2).f1))) (fun _ h_ => h_.1))) hb); replace BK140 := Zs.mk (blk_below (zF BK140) hb); replace BK141 := Zs.mk (blk_below (zF BK141) hb); replace BK145 := Zs.mk (blk_below (g := gb145) (o := .cells #[.int .i64 ((rTR l1_2 x36_2).f0), .int .i64 ((rTR l1_2 x36_2).f1)] 49 (0, 0)) (zY BK145) hb); replace HB := zBs hb; obtain ⟨hcz41_0, hcz41_1, hcz41_2⟩ := zC3 BK140; obtain ⟨hfz41_0, hfz41_1, hfz41_2⟩ := zZ3 BK140; have p148 : 0 ≤ (t146 : Int) := zD; have q148 : t146 < (l0_2.length : Int) := zD; obtain ⟨ad148, e148, hx148_0, hx148_1, hx148_2, hx148_3, hx148_4⟩ := at_T47 HR0_2.out t146 p148 q148; cases e148; replace hx148_0 := zL HB hx148_0; replace hx148_1 := zL HB hx148_1; replace hx148_2 := zL HB hx148_2; replace hx148_3 := zL HB hx148_3; replace hx148_4 := zL HB hx148_4; replace p148 := eq_true p148; replace q148 := eq_true q148) | ((with_reducible refine gate_builtin (b := .append) (xs := #[.tmp 50, .tmp 56]) rfl ?_); at_builtin; refine Kd.R_append k47 (w0 := w) w.heap.size rfl (.tmp 50) (.tmp 56) 25 47 (.agg #[(.int .i64 0), (.int .i64 0), (.int .i64 0), (.int .i64 0), (.int .i64 0)]) 40 rfl Tryz.underlying25 info47 rfl (by decide) (by omega) u6 x6_2 (⟨(rTO l0_2 t146).f0, (rTO l0_2 t146).f1, (rTO l0_2 t146).f2, (rTO l0_2 t146).f3, (rTO l0_2 t146).f4⟩ : S47) [.int .i64 ((rTO l0_2 t146).f0), .int .i64 ((rTO l0_2 t146).f1), .int .i64 ((rTO l0_2 t146).f2), .int .i64 ((rTO l0_2 t146).f3), .int .i64 ((rTO l0_2 t146).f4)] (fun _ => True) (fun _ => False) rfl rfl ?aP (fun _ hk => hk.elim) ?aF ?aO ?aB ?aS ?aL ?_; (case aP => exact k47_mkM _ _ _ (⟨(rTO l0_2 t146).f0, (rTO l0_2 t146).f1, (rTO l0_2 t146).f2, (rTO l0_2 t146).f3, (rTO l0_2 t146).f4⟩ : S47)); (case aB => exact zB); (case aF => exact (fun _ _ => trivial)); (case aO => exact (zR HO_6)); (case aS => exact (bsz zB)); (case aL => have := LMc33.out; omega); intro v150 w42 ho hb hg hat; rw [← Ny149.out] at ho; replace BK140 := Zs.mk (blk_grown (g := gb140) (o := .cells #[.int .i64 a0_0, .int .i64 a0_1, .slice (some ad148) l0_2.length c0_2] 27 (0, 0)) (zK BK140) hg (Kd.R_ne HO_6.out BK140.out (by decide))); replace BK141 := Zs.mk (blk_grown (g := gb141) (o := .cells #[.int .i64 a1_0, .int .i64 a1_1, .slice (some ad144) l1_2.length c1_2] 30 (0, 0)) (zK BK141) hg (Kd.R_ne HO_6.out BK141.out (by decide))); replace BK145 := Zs.mk (blk_grown (g := gb145) (o := .cells #[.int .i64 ((rTR l1_2 x36_2).f0), .int .i64 ((rTR l1_2 x36_2).f1)] 49 (0, 0)) (zK BK145) hg (Kd.R_ne HO_6.out BK145.out (by decide))); replace HB := Zs.mk (hb); have HO151 := Zs.mk (ho); clear HO_6; clear ho hb hg hat))
          go_roundg k2
          case measure => have := HJ2.out; have := HK2.out; omega
          case rel => exact ⟨(y149), (wrap64 (x36_2 + 1)), zs, H', ⟨by have := HJ2.out; have := HK2.out; omega⟩, ⟨zR HO151⟩, ⟨zK BK140⟩, ⟨zK BK141⟩, ⟨zB⟩⟩
         ·
          replace c30 := Bool.eq_false_iff.mpr c30; subst c30
          rw [if_neg (show ¬ (false = true) by decide)] at H
          simp only [Option.some.injEq, Prod.mk.injEq] at H
          obtain ⟨rfl, rfl⟩ := H; have p144 : 0 ≤ (x36_2 : Int) := zD; have q144 : x36_2 < (l1_2.length : Int) := zD; obtain ⟨ad144, e144, hx144_0, hx144_1⟩ := at_T49 HR1_2.out x36_2 p144 q144
          cases e144
          replace hx144_0 := zL HB hx144_0; replace hx144_1 := zL HB hx144_1; replace p144 := eq_true p144; replace q144 := eq_true q144
          go_wp2_with (first | ((with_reducible refine gkd (N := 8) rfl ?_); refine bxe ?hg (N := 8) ?hd (cs := #[.int .i64 0, .int .i64 0]) (t := 49) ?hr ?_; (case hd => rfl); (case hg => rfl); (case hr => first | (go_simp; done) | (go_simp; rfl)); intro gb145 hg w43 hbox hb; replace HO_6 := zRb HO_6 hb; have BK145 := Zs.mk (hbox); have GW145 := zG (w := w) hg; have GE145 := zG (w := w) hg; replace HB := zBs hb; have NB140_145 := zN hg (zK BK140); have NB145_140 := zM hg (zK BK140); replace BK140 := zKb BK140 hb; have NB141_145 := zN hg (zK BK141); have NB145_141 := zM hg (zK BK141); replace BK141 := zKb BK141 hb; clear hb hbox hg; have hnb44 := NB145_140.out; have hnc44 := NB140_145.out; have hnb45 := NB145_141.out; have hnc45 := NB141_145.out; obtain ⟨hcz46_0, hcz46_1⟩ := zC2 BK145; obtain ⟨hfz46_0, hfz46_1⟩ := zZ2 BK145; have hnb47 := NB140_141.out; have hnc47 := NB141_140.out; obtain ⟨hcz48_0, hcz48_1, hcz48_2⟩ := zC3 BK140; obtain ⟨hfz48_0, hfz48_1, hfz48_2⟩ := zZ3 BK140) | ((with_reducible refine gkc (f := 55) rfl ?_); refine zgo (some 45) Tryz.func55 #[.slice A0_2 l0_2.length c0_2, .int .i64 ((rTR l1_2 x36_2).f0), .func (.func 56) #[] #[]] ?_; (with_reducible refine (aoi.calls k2 _ _ l0_2 ((rTR l1_2 x36_2).f0)  t146 false _ ?side1 ?side2 A29.out).mono ?_); (case side1 => exact Kd.C_below HR0_2.out zB); (case side2 => exact HC0_2.out); rintro e w49 ⟨rfl, hb⟩; refine ⟨_, rfl, ?_⟩; replace HO_6 := Zs.mk (Kd.R_below (by (with_reducible repeat (first | apply Kd.Ral | apply Kd.Rdn | apply Kd.Rdw)); exact (Kd.R_mono (Kd.R_far (p := ⟨gb145, 1, none⟩) (Kd.R_far (p := ⟨gb145, 0, none⟩) (Kd.Rty HO_6.out BK145.out (by decide)) (fun _ hk => hk.2) (.int .i64 ((rTR l1_2 x36_2).f0))) (fun _ hk => hk.2) (.int .i64 ((rTR l1_2 x36_2).f1))) (fun _ h_ => h_.1))) hb); replace BK140 := Zs.mk (blk_below (zF BK140) hb); replace BK141 := Zs.mk (blk_below (zF BK141) hb); replace BK145 := Zs.mk (blk_below (g := gb145) (o := .cells #[.int .i64 ((rTR l1_2 x36_2).f0), .int .i64 ((rTR l1_2 x36_2).f1)] 49 (0, 0)) (zY BK145) hb); replace HB := zBs hb))
          go_ret2
          exact ⟨_, zE, by first | exact Kd.R_nil _ _ _ _ _ | exact Kd.N_nil _ _ _ _ _ | exact Kd.V_nil _ _ _ _ _ | exact Kd.Q_nil _ _ _ _ _ | exact Kd.S_nil _ _ _ _ _, zB⟩
        ·
         rw [if_neg c26] at H
         have c26b0 := decide_eq_false c26; clear c26
         simp only [Option.some.injEq, Prod.mk.injEq] at H
         obtain ⟨rfl, rfl⟩ := H
         go_wp2
         go_ret2
         exact ⟨_, zE, zR HO_6, zB⟩
    ·
     rw [if_neg c18] at H
     obtain ⟨c18b0, c18b1⟩ := zne c18
     simp only [Option.some.injEq, Prod.mk.injEq] at H
     obtain ⟨rfl, rfl⟩ := H; have hnb50 := NB140_141.out; have hnc50 := NB141_140.out; obtain ⟨hcz51_0, hcz51_1, hcz51_2⟩ := zC3 BK140; obtain ⟨hfz51_0, hfz51_1, hfz51_2⟩ := zZ3 BK140; obtain ⟨hcz52_0, hcz52_1, hcz52_2⟩ := zC3 BK141; obtain ⟨hfz52_0, hfz52_1, hfz52_2⟩ := zZ3 BK141
     go_wp2
     go_ret2
     exact ⟨_, zE, by first | exact Kd.R_nil _ _ _ _ _ | exact Kd.N_nil _ _ _ _ _ | exact Kd.V_nil _ _ _ _ _ | exact Kd.Q_nil _ _ _ _ _ | exact Kd.S_nil _ _ _ _ _, zB⟩
end
section
mutual
def aR_Match.j0 : Nat → Bool → Int → Int → List (S47) → Int → Int → List (S78) → Option ((List (S47)) × Int)
 | 0, _, _, _, _, _, _, _ => none
 | k + 1, x16, x414000, x414001, x414002, x415000, x415001, x415002 => if x16 = true then (some (([] : List (S47)), 2)) else (if x414000 = x415000 then (aR_Match.j1 k (decide (x415001 < x414001)) x414000 x414001 x414002 x415000 x415001 x415002) else (aR_Match.j1 k true x414000 x414001 x414002 x415000 x415001 x415002))
def aR_Match.j1 : Nat → Bool → Int → Int → List (S47) → Int → Int → List (S78) → Option ((List (S47)) × Int)
 | 0, _, _, _, _, _, _, _ => none
 | k + 1, x28, x414000, x414001, x414002, x415000, x415001, x415002 => if x28 = true then (some (([] : List (S47)), 363)) else (aR_Match.l0 k ([] : List (S47)) 0 x414000 x414001 x414002 x415000 x415001 x415002)
def aR_Match.l0 : Nat → List (S47) → Int → Int → Int → List (S47) → Int → Int → List (S78) → Option ((List (S47)) × Int)
 | 0, _, _, _, _, _, _, _, _ => none
 | k + 1, x6, x7, x414000, x414001, x414002, x415000, x415001, x415002 => if x7 < (x415002.length : Int) then (aR_Match.l1 k x6 x7 0 x414000 x414001 x414002 x415000 x415001 x415002) else (if (x6.length : Int) = (x415002.length : Int) then (some (x6, 0)) else (some (([] : List (S47)), 6)))
def aR_Match.l1 : Nat → List (S47) → Int → Int → Int → Int → List (S47) → Int → Int → List (S78) → Option ((List (S47)) × Int)
 | 0, _, _, _, _, _, _, _, _, _ => none
 | k + 1, x6, x7, x8, x414000, x414001, x414002, x415000, x415001, x415002 => if x8 < (x414002.length : Int) then (if 0 ≤ x8 then (if 0 ≤ x7 then (if x7 < (x415002.length : Int) then (if ((rTO x414002 x8).f0) = ((rTP x415002 x7).f0) then (if x6.length < 3518437208883 then (aR_Match.l1 k (x6 ++ [(⟨(rTO x414002 x8).f0, (rTO x414002 x8).f1, (rTO x414002 x8).f2, (rTO x414002 x8).f3, (rTO x414002 x8).f4⟩ : S47)]) x7 (wrap64 (x8 + 1)) x414000 x414001 x414002 x415000 x415001 x415002) else (none)) else (aR_Match.l1 k x6 x7 (wrap64 (x8 + 1)) x414000 x414001 x414002 x415000 x415001 x415002)) else (none)) else (none)) else (none)) else (aR_Match.l0 k x6 (wrap64 (x7 + 1)) x414000 x414001 x414002 x415000 x415001 x415002)
end
def aR_Match.f (k : Nat) (a0_0 : Int) (a0_1 : Int) (l0_2 : List (S47)) (a1_0 : Int) (a1_1 : Int) (l1_2 : List (S78)) : Option ((List (S47)) × Int) := (aR_Valid.f k a0_0 a0_1 l0_2).bind fun t415 => (if t415 = true then ((aR_Right.f k a1_0 a1_1 l1_2).bind fun t416 => (aR_Match.j0 k (!t416) a0_0 a0_1 l0_2 a1_0 a1_1 l1_2)) else (aR_Match.j0 k true a0_0 a0_1 l0_2 a1_0 a1_1 l1_2))
set_option maxHeartbeats 8000000 in
set_option maxRecDepth 100000 in
theorem aR_Match.calls (k : Nat) (a0_0 : Int) (a0_1 : Int) (A0_2 : Option Addr) (c0_2 : Nat) (l0_2 : List (S47)) (a1_0 : Int) (a1_1 : Int) (A1_2 : Option Addr) (c1_2 : Nat) (l1_2 : List (S78)) (r1 : List (S47)) (r2 : Int) (w : World) (hr0_2 : Kd.C k47 w A0_2 l0_2.length l0_2) (hc0_2 : l0_2.length ≤ c0_2) (hr1_2 : Kd.C k78 w A1_2 l1_2.length l1_2) (hc1_2 : l1_2.length ≤ c1_2) (h : aR_Match.f k a0_0 a0_1 l0_2 a1_0 a1_1 l1_2 = some (r1, r2)) :
  Calls Tryz.prog 40 #[.agg #[.int .i64 a0_0, .int .i64 a0_1, .slice A0_2 l0_2.length c0_2], .agg #[.int .i64 a1_0, .int .i64 a1_1, .slice A1_2 l1_2.length c1_2]] w fun e w' => ∃ v0_ : Value, e = .returned (.tuple #[v0_, .int .i64 r2]) ∧ Kd.R k47 47 w' w.heap.size (fun _ => True) v0_ r1 ∧ Below w.heap.size w w' := by
 have hu36 := Tryz.underlying36; have hu41 := Tryz.underlying41; have hu47 := Tryz.underlying47; have HR0_2 := Zs.mk hr0_2; have HC0_2 := Zs.mk hc0_2; clear hr0_2 hc0_2; have HR1_2 := Zs.mk hr1_2; have HC1_2 := Zs.mk hc1_2; clear hr1_2 hc1_2; have HB := Zs.mk (Below.refl w.heap.size w); have H : ((aR_Valid.f k a0_0 a0_1 l0_2).bind fun t415 => (if t415 = true then ((aR_Right.f k a1_0 a1_1 l1_2).bind fun t416 => (aR_Match.j0 k (!t416) a0_0 a0_1 l0_2 a1_0 a1_1 l1_2)) else (aR_Match.j0 k true a0_0 a0_1 l0_2 a1_0 a1_1 l1_2))) = some (r1, r2) := h; clear h; have HC3 := Zs.mk H; clear H
 go_enter Tryz.func40, Tryz.ntmps40
 go_upto_region 1 with (first | ((with_reducible refine gkd (N := 2) rfl ?_); refine bxe ?hg (N := 2) ?hd (cs := #[.int .i64 a0_0, .int .i64 a0_1, .slice A0_2 l0_2.length c0_2]) (t := 36) ?hr ?_; (case hd => rfl); (case hg => rfl); (case hr => first | (go_simp; done) | (go_simp; rfl)); intro gb413 hg w4 hbox hb; have BK413 := Zs.mk (hbox); have GW413 := zG (w := w) hg; have GE413 := zG (w := w) hg; replace HB := zBs hb; clear hb hbox hg) | ((with_reducible refine gkd (N := 3) rfl ?_); refine bxe ?hg (N := 3) ?hd (cs := #[.int .i64 a1_0, .int .i64 a1_1, .slice A1_2 l1_2.length c1_2]) (t := 41) ?hr ?_; (case hd => rfl); (case hg => rfl); (case hr => first | (go_simp; done) | (go_simp; rfl)); intro gb414 hg w5 hbox hb; have BK414 := Zs.mk (hbox); have GW414 := zG (w := w) hg; have GE414 := zG (w := w) hg; replace HB := zBs hb; have NB413_414 := zN hg (zK BK413); have NB414_413 := zM hg (zK BK413); replace BK413 := zKb BK413 hb; clear hb hbox hg))
 repeat (go_quiet (first | ((with_reducible refine gkd (N := 2) rfl ?_); refine bxe ?hg (N := 2) ?hd (cs := #[.int .i64 a0_0, .int .i64 a0_1, .slice A0_2 l0_2.length c0_2]) (t := 36) ?hr ?_; (case hd => rfl); (case hg => rfl); (case hr => first | (go_simp; done) | (go_simp; rfl)); intro gb413 hg w4 hbox hb; have BK413 := Zs.mk (hbox); have GW413 := zG (w := w) hg; have GE413 := zG (w := w) hg; replace HB := zBs hb; clear hb hbox hg) | ((with_reducible refine gkd (N := 3) rfl ?_); refine bxe ?hg (N := 3) ?hd (cs := #[.int .i64 a1_0, .int .i64 a1_1, .slice A1_2 l1_2.length c1_2]) (t := 41) ?hr ?_; (case hd => rfl); (case hg => rfl); (case hr => first | (go_simp; done) | (go_simp; rfl)); intro gb414 hg w5 hbox hb; have BK414 := Zs.mk (hbox); have GW414 := zG (w := w) hg; have GE414 := zG (w := w) hg; replace HB := zBs hb; have NB413_414 := zN hg (zK BK413); have NB414_413 := zM hg (zK BK413); replace BK413 := zKb BK413 hb; clear hb hbox hg)); go_upto_region 1 with (first | ((with_reducible refine gkd (N := 2) rfl ?_); refine bxe ?hg (N := 2) ?hd (cs := #[.int .i64 a0_0, .int .i64 a0_1, .slice A0_2 l0_2.length c0_2]) (t := 36) ?hr ?_; (case hd => rfl); (case hg => rfl); (case hr => first | (go_simp; done) | (go_simp; rfl)); intro gb413 hg w4 hbox hb; have BK413 := Zs.mk (hbox); have GW413 := zG (w := w) hg; have GE413 := zG (w := w) hg; replace HB := zBs hb; clear hb hbox hg) | ((with_reducible refine gkd (N := 3) rfl ?_); refine bxe ?hg (N := 3) ?hd (cs := #[.int .i64 a1_0, .int .i64 a1_1, .slice A1_2 l1_2.length c1_2]) (t := 41) ?hr ?_; (case hd => rfl); (case hg => rfl); (case hr => first | (go_simp; done) | (go_simp; rfl)); intro gb414 hg w5 hbox hb; have BK414 := Zs.mk (hbox); have GW414 := zG (w := w) hg; have GE414 := zG (w := w) hg; replace HB := zBs hb; have NB413_414 := zN hg (zK BK413); have NB414_413 := zM hg (zK BK413); replace BK413 := zKb BK413 hb; clear hb hbox hg)))
 (try simp only [Act.put, List.setIfInBounds_toArray, List.set_cons_zero, List.set_cons_succ])
 go_cut [16] (fun v16 wc => ∃ (kq : Nat) (x16_2 : Bool), v16 = .bool x16_2 ∧ Zs (aR_Match.j0 kq x16_2 a0_0 a0_1 l0_2 a1_0 a1_1 l1_2 = some (r1, r2)) ∧ Zs (kq ≤ k) ∧ Zs (wc.heap[gb413]? = some (.cells #[.int .i64 a0_0, .int .i64 a0_1, (.slice A0_2 l0_2.length c0_2)] 36 (0, 0))) ∧ Zs (wc.heap[gb414]? = some (.cells #[.int .i64 a1_0, .int .i64 a1_1, (.slice A1_2 l1_2.length c1_2)] 41 (0, 0))) ∧ Zs (Below w.heap.size w wc))
 case first =>
  have H := HC3.out; clear HC3; obtain ⟨t415, A6, H⟩ := zb H; (try dsimp only [-Int.reduceToNat] at H)
  by_cases c7 : t415 = true
  ·
   subst c7
   rw [if_pos rfl] at H
   obtain ⟨t416, A8, H⟩ := zb H; (try dsimp only [-Int.reduceToNat] at H); have H' := Zs.mk H; clear H; have hnb9 := NB413_414.out; have hnc9 := NB414_413.out; obtain ⟨hcz10_0, hcz10_1, hcz10_2⟩ := zC3 BK413; obtain ⟨hfz10_0, hfz10_1, hfz10_2⟩ := zZ3 BK413
   go_wp2_with (first | (go_at_call 35; (with_reducible refine (aR_Valid.calls k a0_0 a0_1 _ _ l0_2 true _ ?side1 ?side2 A6.out).mono ?_); (case side1 => exact zQC HR0_2); (case side2 => exact HC0_2.out); rintro e w11 ⟨rfl, hb⟩; replace BK413 := zKb BK413 hb; replace BK414 := zKb BK414 hb; replace HB := zBs hb; obtain ⟨hcz12_0, hcz12_1, hcz12_2⟩ := zC3 BK414; obtain ⟨hfz12_0, hfz12_1, hfz12_2⟩ := zZ3 BK414) | (go_at_call 38; (with_reducible refine (aR_Right.calls k a1_0 a1_1 _ _ l1_2 t416 _ ?side1 ?side2 A8.out).mono ?_); (case side1 => exact zQC HR1_2); (case side2 => exact HC1_2.out); rintro e w13 ⟨rfl, hb⟩; replace BK413 := zKb BK413 hb; replace BK414 := zKb BK414 hb; replace HB := zBs hb))
   repeat (go_quiet (first | (go_at_call 35; (with_reducible refine (aR_Valid.calls k a0_0 a0_1 _ _ l0_2 true _ ?side1 ?side2 A6.out).mono ?_); (case side1 => exact zQC HR0_2); (case side2 => exact HC0_2.out); rintro e w11 ⟨rfl, hb⟩; replace BK413 := zKb BK413 hb; replace BK414 := zKb BK414 hb; replace HB := zBs hb; obtain ⟨hcz12_0, hcz12_1, hcz12_2⟩ := zC3 BK414; obtain ⟨hfz12_0, hfz12_1, hfz12_2⟩ := zZ3 BK414) | (go_at_call 38; (with_reducible refine (aR_Right.calls k a1_0 a1_1 _ _ l1_2 t416 _ ?side1 ?side2 A8.out).mono ?_); (case side1 => exact zQC HR1_2); (case side2 => exact HC1_2.out); rintro e w13 ⟨rfl, hb⟩; replace BK413 := zKb BK413 hb; replace BK414 := zKb BK414 hb; replace HB := zBs hb)); try go_wp2_with (first | (go_at_call 35; (with_reducible refine (aR_Valid.calls k a0_0 a0_1 _ _ l0_2 true _ ?side1 ?side2 A6.out).mono ?_); (case side1 => exact zQC HR0_2); (case side2 => exact HC0_2.out); rintro e w11 ⟨rfl, hb⟩; replace BK413 := zKb BK413 hb; replace BK414 := zKb BK414 hb; replace HB := zBs hb; obtain ⟨hcz12_0, hcz12_1, hcz12_2⟩ := zC3 BK414; obtain ⟨hfz12_0, hfz12_1, hfz12_2⟩ := zZ3 BK414) | (go_at_call 38; (with_reducible refine (aR_Right.calls k a1_0 a1_1 _ _ l1_2 t416 _ ?side1 ?side2 A8.out).mono ?_); (case side1 => exact zQC HR1_2); (case side2 => exact HC1_2.out); rintro e w13 ⟨rfl, hb⟩; replace BK413 := zKb BK413 hb; replace BK414 := zKb BK414 hb; replace HB := zBs hb)))
   go_meet
   case rel => exact ⟨_, (!t416), zs, H', ⟨by first | omega | exact Nat.le_refl _⟩, ⟨zK BK413⟩, ⟨zK BK414⟩, ⟨zB⟩⟩
  ·
   replace c7 := Bool.eq_false_iff.mpr c7; subst c7
   rw [if_neg (show ¬ (false = true) by decide)] at H
   have H' := Zs.mk H; clear H; have hnb14 := NB413_414.out; have hnc14 := NB414_413.out; obtain ⟨hcz15_0, hcz15_1, hcz15_2⟩ := zC3 BK413; obtain ⟨hfz15_0, hfz15_1, hfz15_2⟩ := zZ3 BK413
   go_wp2_with (first | (go_at_call 35; (with_reducible refine (aR_Valid.calls k a0_0 a0_1 _ _ l0_2 false _ ?side1 ?side2 A6.out).mono ?_); (case side1 => exact zQC HR0_2); (case side2 => exact HC0_2.out); rintro e w16 ⟨rfl, hb⟩; replace BK413 := zKb BK413 hb; replace BK414 := zKb BK414 hb; replace HB := zBs hb))
   repeat (go_quiet (first | (go_at_call 35; (with_reducible refine (aR_Valid.calls k a0_0 a0_1 _ _ l0_2 false _ ?side1 ?side2 A6.out).mono ?_); (case side1 => exact zQC HR0_2); (case side2 => exact HC0_2.out); rintro e w16 ⟨rfl, hb⟩; replace BK413 := zKb BK413 hb; replace BK414 := zKb BK414 hb; replace HB := zBs hb)); try go_wp2_with (first | (go_at_call 35; (with_reducible refine (aR_Valid.calls k a0_0 a0_1 _ _ l0_2 false _ ?side1 ?side2 A6.out).mono ?_); (case side1 => exact zQC HR0_2); (case side2 => exact HC0_2.out); rintro e w16 ⟨rfl, hb⟩; replace BK413 := zKb BK413 hb; replace BK414 := zKb BK414 hb; replace HB := zBs hb)))
   go_meet
   case rel => exact ⟨_, (true), zs, H', ⟨by first | omega | exact Nat.le_refl _⟩, ⟨zK BK413⟩, ⟨zK BK414⟩, ⟨zB⟩⟩
 case rest =>
  clear HC3
  obtain ⟨kq, x16_2, rfl, HA, HJ2, BK413, BK414, HB⟩ := hcut
  cases kq with
  | zero => exact absurd HA.out (by simp [aR_Match.j0])
  | succ kj2 =>
   have H := HA.out; clear HA
   simp only [aR_Match.j0] at H
   by_cases c17 : x16_2 = true
   ·
    subst c17
    rw [if_pos rfl] at H
    simp only [Option.some.injEq, Prod.mk.injEq] at H
    obtain ⟨rfl, rfl⟩ := H
    go_wp2
    repeat (go_quiet (fail); try go_wp2)
    go_ret2
    exact ⟨_, zE, by first | exact Kd.R_nil _ _ _ _ _ | exact Kd.N_nil _ _ _ _ _ | exact Kd.V_nil _ _ _ _ _ | exact Kd.Q_nil _ _ _ _ _ | exact Kd.S_nil _ _ _ _ _, zB⟩
   ·
    replace c17 := Bool.eq_false_iff.mpr c17; subst c17
    rw [if_neg (show ¬ (false = true) by decide)] at H
    have HC18 := Zs.mk H; clear H
    go_upto_region 3 with (fail)
    repeat (go_quiet (fail); go_upto_region 3 with (fail))
    go_cut [28] (fun v28 wc => ∃ (kq : Nat) (x28_17 : Bool), v28 = .bool x28_17 ∧ Zs (aR_Match.j1 kq x28_17 a0_0 a0_1 l0_2 a1_0 a1_1 l1_2 = some (r1, r2)) ∧ Zs (kq ≤ kj2) ∧ Zs (wc.heap[gb413]? = some (.cells #[.int .i64 a0_0, .int .i64 a0_1, (.slice A0_2 l0_2.length c0_2)] 36 (0, 0))) ∧ Zs (wc.heap[gb414]? = some (.cells #[.int .i64 a1_0, .int .i64 a1_1, (.slice A1_2 l1_2.length c1_2)] 41 (0, 0))) ∧ Zs (Below w.heap.size w wc))
    case first =>
     have H := HC18.out; clear HC18
     by_cases c19 : a0_0 = a1_0
     ·
      rw [if_pos c19] at H
      obtain ⟨c19b0, c19b1⟩ := zeq c19; clear c19
      (first | rw [c19b0] | (simp only [i64_w, i32_w]; rw [c19b0]) | skip)
      have H' := Zs.mk H; clear H; have hnb20 := NB413_414.out; have hnc20 := NB414_413.out; obtain ⟨hcz21_0, hcz21_1, hcz21_2⟩ := zC3 BK413; obtain ⟨hfz21_0, hfz21_1, hfz21_2⟩ := zZ3 BK413; obtain ⟨hcz22_0, hcz22_1, hcz22_2⟩ := zC3 BK414; obtain ⟨hfz22_0, hfz22_1, hfz22_2⟩ := zZ3 BK414
      go_wp2
      repeat (go_quiet (fail); try go_wp2)
      go_meet
      case rel => exact ⟨_, (decide (a1_1 < a0_1)), zs, H', ⟨by have := HJ2.out; first | omega | exact Nat.le_refl _⟩, ⟨zK BK413⟩, ⟨zK BK414⟩, ⟨zB⟩⟩
     ·
      rw [if_neg c19] at H
      obtain ⟨c19b0, c19b1⟩ := zne c19
      (first | rw [c19b0] | (simp only [i64_w, i32_w]; rw [c19b0]) | skip)
      have H' := Zs.mk H; clear H; have hnb23 := NB413_414.out; have hnc23 := NB414_413.out; obtain ⟨hcz24_0, hcz24_1, hcz24_2⟩ := zC3 BK413; obtain ⟨hfz24_0, hfz24_1, hfz24_2⟩ := zZ3 BK413; obtain ⟨hcz25_0, hcz25_1, hcz25_2⟩ := zC3 BK414; obtain ⟨hfz25_0, hfz25_1, hfz25_2⟩ := zZ3 BK414
      go_wp2
      repeat (go_quiet (fail); try go_wp2)
      go_meet
      case rel => exact ⟨_, (true), zs, H', ⟨by have := HJ2.out; first | omega | exact Nat.le_refl _⟩, ⟨zK BK413⟩, ⟨zK BK414⟩, ⟨zB⟩⟩
    case rest =>
     clear HC18
     obtain ⟨kq, x28_17, rfl, HA, HJ17, BK413, BK414, HB⟩ := hcut
     cases kq with
     | zero => exact absurd HA.out (by simp [aR_Match.j1])
     | succ kj17 =>
      have H := HA.out; clear HA
      simp only [aR_Match.j1] at H
      by_cases c26 : x28_17 = true
      ·
       subst c26
       rw [if_pos rfl] at H
       simp only [Option.some.injEq, Prod.mk.injEq] at H
       obtain ⟨rfl, rfl⟩ := H
       go_wp2
       repeat (go_quiet (fail); try go_wp2)
       go_ret2
       exact ⟨_, zE, by first | exact Kd.R_nil _ _ _ _ _ | exact Kd.N_nil _ _ _ _ _ | exact Kd.V_nil _ _ _ _ _ | exact Kd.Q_nil _ _ _ _ _ | exact Kd.S_nil _ _ _ _ _, zB⟩
      ·
       replace c26 := Bool.eq_false_iff.mpr c26; subst c26
       rw [if_neg (show ¬ (false = true) by decide)] at H
       have H' := Zs.mk H; clear H
       go_wp2
       repeat (go_quiet (fail); try go_wp2)
       go_loopg [6, 7] kj17 (fun kq v6 v7 w' => ∃ (x6_3 : List (S47)) (x7_3 : Int), v7 = .int .i64 x7_3 ∧ Zs (aR_Match.l0 kq x6_3 x7_3 a0_0 a0_1 l0_2 a1_0 a1_1 l1_2 = some (r1, r2)) ∧ Zs (kq ≤ kj17) ∧ Zs (Kd.R k47 47 w' w.heap.size (fun _ => True) v6 x6_3) ∧ Zs (w'.heap[gb413]? = some (.cells #[.int .i64 a0_0, .int .i64 a0_1, (.slice A0_2 l0_2.length c0_2)] 36 (0, 0))) ∧ Zs (w'.heap[gb414]? = some (.cells #[.int .i64 a1_0, .int .i64 a1_1, (.slice A1_2 l1_2.length c1_2)] 41 (0, 0))) ∧ Zs (Below w.heap.size w w'))
       case atStart => exact ⟨(([] : List (S47))), (0), zs, H', ⟨Nat.le_refl _⟩, ⟨by first | exact Kd.R_nil _ _ _ _ _ | exact Kd.N_nil _ _ _ _ _ | exact Kd.V_nil _ _ _ _ _ | exact Kd.Q_nil _ _ _ _ _ | exact Kd.S_nil _ _ _ _ _⟩, ⟨zK BK413⟩, ⟨zK BK414⟩, ⟨zB⟩⟩
       case round =>
        clear H'
        obtain ⟨x6_3, x7_3, rfl, HA, HK3, HO_6, BK413, BK414, HB⟩ := hrel
        cases gk with
        | zero => exact absurd HA.out (by simp [aR_Match.l0])
        | succ k3 =>
         have H := HA.out; clear HA
         simp only [aR_Match.l0] at H
         by_cases c27 : x7_3 < (l1_2.length : Int)
         ·
          rw [if_pos c27] at H
          have c27b0 := decide_eq_true c27; clear c27; have H' := Zs.mk H; clear H; have hnb28 := NB414_413.out; have hnc28 := NB413_414.out; obtain ⟨hcz29_0, hcz29_1, hcz29_2⟩ := zC3 BK414; obtain ⟨hfz29_0, hfz29_1, hfz29_2⟩ := zZ3 BK414
          go_wp2
          repeat (go_quiet (fail); try go_wp2)
          go_loopg [6, 8] k3 (fun kq v6 v8 w' => ∃ (x6_4 : List (S47)) (x8_4 : Int), v8 = .int .i64 x8_4 ∧ Zs (aR_Match.l1 kq x6_4 x7_3 x8_4 a0_0 a0_1 l0_2 a1_0 a1_1 l1_2 = some (r1, r2)) ∧ Zs (kq ≤ k3) ∧ Zs (Kd.R k47 47 w' w.heap.size (fun _ => True) v6 x6_4) ∧ Zs (w'.heap[gb413]? = some (.cells #[.int .i64 a0_0, .int .i64 a0_1, (.slice A0_2 l0_2.length c0_2)] 36 (0, 0))) ∧ Zs (w'.heap[gb414]? = some (.cells #[.int .i64 a1_0, .int .i64 a1_1, (.slice A1_2 l1_2.length c1_2)] 41 (0, 0))) ∧ Zs (Below w.heap.size w w'))
          case atStart => exact ⟨(x6_3), (0), zs, H', ⟨Nat.le_refl _⟩, ⟨zR HO_6⟩, ⟨zK BK413⟩, ⟨zK BK414⟩, ⟨zB⟩⟩
          case round =>
           clear H'
           obtain ⟨x6_4, x8_4, rfl, HA, HK4, HO_6, BK413, BK414, HB⟩ := hrel
           cases gk with
           | zero => exact absurd HA.out (by simp [aR_Match.l1])
           | succ k4 =>
            have H := HA.out; clear HA
            simp only [aR_Match.l1] at H
            by_cases c30 : x8_4 < (l0_2.length : Int)
            ·
             rw [if_pos c30] at H
             have c30b0 := decide_eq_true c30; clear c30
             have c31 := zc H
             rw [if_pos c31] at H
             have c31b0 := decide_eq_true c31; clear c31
             have c32 := zc H
             rw [if_pos c32] at H
             have c32b0 := decide_eq_true c32; clear c32
             have c33 := zc H
             rw [if_pos c33] at H
             have c33b0 := decide_eq_true c33; clear c33
             by_cases c34 : ((rTO l0_2 x8_4).f0) = ((rTP l1_2 x7_3).f0)
             ·
              rw [if_pos c34] at H
              obtain ⟨c34b0, c34b1⟩ := zeq c34; clear c34
              have c35 := zc H
              rw [if_pos c35] at H
              have LMc35 := Zs.mk c35; clear c35
              obtain ⟨y420, hy420⟩ : ∃ y_ : List (S47), y_ = (x6_4 ++ [(⟨(rTO l0_2 x8_4).f0, (rTO l0_2 x8_4).f1, (rTO l0_2 x8_4).f2, (rTO l0_2 x8_4).f3, (rTO l0_2 x8_4).f4⟩ : S47)]) := ⟨_, rfl⟩
              replace H : (aR_Match.l1 k4 y420 x7_3 (wrap64 (x8_4 + 1)) a0_0 a0_1 l0_2 a1_0 a1_1 l1_2) = some (r1, r2) := by first | (rw [hy420]; with_reducible exact H) | (have H2_ := (Option.bind_some _ _).symm.trans H; rw [hy420]; with_reducible exact H2_) | (have H2_ := (Option.bind_some _ _).symm.trans H; with_reducible exact H2_) | with_reducible exact H | (rw [hy420]; exact H) | exact H
              have Ny420 := Zs.mk hy420; clear hy420; have H' := Zs.mk H; clear H; have hnb36 := NB413_414.out; have hnc36 := NB414_413.out; obtain ⟨hcz37_0, hcz37_1, hcz37_2⟩ := zC3 BK413; obtain ⟨hfz37_0, hfz37_1, hfz37_2⟩ := zZ3 BK413; have p417 : 0 ≤ (x8_4 : Int) := zD; have q417 : x8_4 < (l0_2.length : Int) := zD; obtain ⟨ad417, e417, hx417_0, hx417_1, hx417_2, hx417_3, hx417_4⟩ := at_T47 HR0_2.out x8_4 p417 q417
              cases e417
              replace hx417_0 := zL HB hx417_0; replace hx417_1 := zL HB hx417_1; replace hx417_2 := zL HB hx417_2; replace hx417_3 := zL HB hx417_3; replace hx417_4 := zL HB hx417_4; replace p417 := eq_true p417; replace q417 := eq_true q417; obtain ⟨hcz38_0, hcz38_1, hcz38_2⟩ := zC3 BK414; obtain ⟨hfz38_0, hfz38_1, hfz38_2⟩ := zZ3 BK414; have p418 : 0 ≤ (x7_3 : Int) := zD; have q418 : x7_3 < (l1_2.length : Int) := zD; obtain ⟨ad418, e418, hx418_0, hx418_1⟩ := at_T78 HR1_2.out x7_3 p418 q418
              cases e418
              replace hx418_0 := zL HB hx418_0; replace hx418_1 := zL HB hx418_1; replace p418 := eq_true p418; replace q418 := eq_true q418; have p419 : 0 ≤ (x8_4 : Int) := zD; have q419 : x8_4 < (l0_2.length : Int) := zD; obtain ⟨ad419, e419, hx419_0, hx419_1, hx419_2, hx419_3, hx419_4⟩ := at_T47 HR0_2.out x8_4 p419 q419; obtain rfl : ad417 = ad419 := (by injection e419); replace hx419_0 := zL HB hx419_0; replace hx419_1 := zL HB hx419_1; replace hx419_2 := zL HB hx419_2; replace hx419_3 := zL HB hx419_3; replace hx419_4 := zL HB hx419_4; replace p419 := eq_true p419; replace q419 := eq_true q419
              go_wp2_with (first | ((with_reducible refine gate_builtin (b := .append) (xs := #[.tmp 56, .tmp 62]) rfl ?_); at_builtin; refine Kd.R_append k47 (w0 := w) w.heap.size rfl (.tmp 56) (.tmp 62) 25 47 (.agg #[(.int .i64 0), (.int .i64 0), (.int .i64 0), (.int .i64 0), (.int .i64 0)]) 40 rfl Tryz.underlying25 info47 rfl (by decide) (by omega) u6 x6_4 (⟨(rTO l0_2 x8_4).f0, (rTO l0_2 x8_4).f1, (rTO l0_2 x8_4).f2, (rTO l0_2 x8_4).f3, (rTO l0_2 x8_4).f4⟩ : S47) [.int .i64 ((rTO l0_2 x8_4).f0), .int .i64 ((rTO l0_2 x8_4).f1), .int .i64 ((rTO l0_2 x8_4).f2), .int .i64 ((rTO l0_2 x8_4).f3), .int .i64 ((rTO l0_2 x8_4).f4)] (fun _ => True) (fun _ => False) rfl rfl ?aP (fun _ hk => hk.elim) ?aF ?aO ?aB ?aS ?aL ?_; (case aP => exact k47_mkM _ _ _ (⟨(rTO l0_2 x8_4).f0, (rTO l0_2 x8_4).f1, (rTO l0_2 x8_4).f2, (rTO l0_2 x8_4).f3, (rTO l0_2 x8_4).f4⟩ : S47)); (case aB => exact zB); (case aF => exact (fun _ _ => trivial)); (case aO => exact (zR HO_6)); (case aS => exact (bsz zB)); (case aL => have := LMc35.out; omega); intro v421 w39 ho hb hg hat; rw [← Ny420.out] at ho; replace BK413 := Zs.mk (blk_grown (g := gb413) (o := .cells #[.int .i64 a0_0, .int .i64 a0_1, .slice (some ad417) l0_2.length c0_2] 36 (0, 0)) (zK BK413) hg (Kd.R_ne HO_6.out BK413.out (by decide))); replace BK414 := Zs.mk (blk_grown (g := gb414) (o := .cells #[.int .i64 a1_0, .int .i64 a1_1, .slice (some ad418) l1_2.length c1_2] 41 (0, 0)) (zK BK414) hg (Kd.R_ne HO_6.out BK414.out (by decide))); replace HB := Zs.mk (hb); have HO422 := Zs.mk (ho); clear HO_6; clear ho hb hg hat))
              repeat (go_quiet (first | ((with_reducible refine gate_builtin (b := .append) (xs := #[.tmp 56, .tmp 62]) rfl ?_); at_builtin; refine Kd.R_append k47 (w0 := w) w.heap.size rfl (.tmp 56) (.tmp 62) 25 47 (.agg #[(.int .i64 0), (.int .i64 0), (.int .i64 0), (.int .i64 0), (.int .i64 0)]) 40 rfl Tryz.underlying25 info47 rfl (by decide) (by omega) u6 x6_4 (⟨(rTO l0_2 x8_4).f0, (rTO l0_2 x8_4).f1, (rTO l0_2 x8_4).f2, (rTO l0_2 x8_4).f3, (rTO l0_2 x8_4).f4⟩ : S47) [.int .i64 ((rTO l0_2 x8_4).f0), .int .i64 ((rTO l0_2 x8_4).f1), .int .i64 ((rTO l0_2 x8_4).f2), .int .i64 ((rTO l0_2 x8_4).f3), .int .i64 ((rTO l0_2 x8_4).f4)] (fun _ => True) (fun _ => False) rfl rfl ?aP (fun _ hk => hk.elim) ?aF ?aO ?aB ?aS ?aL ?_; (case aP => exact k47_mkM _ _ _ (⟨(rTO l0_2 x8_4).f0, (rTO l0_2 x8_4).f1, (rTO l0_2 x8_4).f2, (rTO l0_2 x8_4).f3, (rTO l0_2 x8_4).f4⟩ : S47)); (case aB => exact zB); (case aF => exact (fun _ _ => trivial)); (case aO => exact (zR HO_6)); (case aS => exact (bsz zB)); (case aL => have := LMc35.out; omega); intro v421 w39 ho hb hg hat; rw [← Ny420.out] at ho; replace BK413 := Zs.mk (blk_grown (g := gb413) (o := .cells #[.int .i64 a0_0, .int .i64 a0_1, .slice (some ad417) l0_2.length c0_2] 36 (0, 0)) (zK BK413) hg (Kd.R_ne HO_6.out BK413.out (by decide))); replace BK414 := Zs.mk (blk_grown (g := gb414) (o := .cells #[.int .i64 a1_0, .int .i64 a1_1, .slice (some ad418) l1_2.length c1_2] 41 (0, 0)) (zK BK414) hg (Kd.R_ne HO_6.out BK414.out (by decide))); replace HB := Zs.mk (hb); have HO422 := Zs.mk (ho); clear HO_6; clear ho hb hg hat)); try go_wp2_with (first | ((with_reducible refine gate_builtin (b := .append) (xs := #[.tmp 56, .tmp 62]) rfl ?_); at_builtin; refine Kd.R_append k47 (w0 := w) w.heap.size rfl (.tmp 56) (.tmp 62) 25 47 (.agg #[(.int .i64 0), (.int .i64 0), (.int .i64 0), (.int .i64 0), (.int .i64 0)]) 40 rfl Tryz.underlying25 info47 rfl (by decide) (by omega) u6 x6_4 (⟨(rTO l0_2 x8_4).f0, (rTO l0_2 x8_4).f1, (rTO l0_2 x8_4).f2, (rTO l0_2 x8_4).f3, (rTO l0_2 x8_4).f4⟩ : S47) [.int .i64 ((rTO l0_2 x8_4).f0), .int .i64 ((rTO l0_2 x8_4).f1), .int .i64 ((rTO l0_2 x8_4).f2), .int .i64 ((rTO l0_2 x8_4).f3), .int .i64 ((rTO l0_2 x8_4).f4)] (fun _ => True) (fun _ => False) rfl rfl ?aP (fun _ hk => hk.elim) ?aF ?aO ?aB ?aS ?aL ?_; (case aP => exact k47_mkM _ _ _ (⟨(rTO l0_2 x8_4).f0, (rTO l0_2 x8_4).f1, (rTO l0_2 x8_4).f2, (rTO l0_2 x8_4).f3, (rTO l0_2 x8_4).f4⟩ : S47)); (case aB => exact zB); (case aF => exact (fun _ _ => trivial)); (case aO => exact (zR HO_6)); (case aS => exact (bsz zB)); (case aL => have := LMc35.out; omega); intro v421 w39 ho hb hg hat; rw [← Ny420.out] at ho; replace BK413 := Zs.mk (blk_grown (g := gb413) (o := .cells #[.int .i64 a0_0, .int .i64 a0_1, .slice (some ad417) l0_2.length c0_2] 36 (0, 0)) (zK BK413) hg (Kd.R_ne HO_6.out BK413.out (by decide))); replace BK414 := Zs.mk (blk_grown (g := gb414) (o := .cells #[.int .i64 a1_0, .int .i64 a1_1, .slice (some ad418) l1_2.length c1_2] 41 (0, 0)) (zK BK414) hg (Kd.R_ne HO_6.out BK414.out (by decide))); replace HB := Zs.mk (hb); have HO422 := Zs.mk (ho); clear HO_6; clear ho hb hg hat)))
              go_roundg k4
              case measure => have := HJ2.out; have := HJ17.out; have := HK3.out; have := HK4.out; omega
              case rel => exact ⟨(y420), (wrap64 (x8_4 + 1)), zs, H', ⟨by have := HJ2.out; have := HJ17.out; have := HK3.out; have := HK4.out; omega⟩, ⟨zR HO422⟩, ⟨zK BK413⟩, ⟨zK BK414⟩, ⟨zB⟩⟩
             ·
              rw [if_neg c34] at H
              obtain ⟨c34b0, c34b1⟩ := zne c34; have H' := Zs.mk H; clear H; have hnb40 := NB413_414.out; have hnc40 := NB414_413.out; obtain ⟨hcz41_0, hcz41_1, hcz41_2⟩ := zC3 BK413; obtain ⟨hfz41_0, hfz41_1, hfz41_2⟩ := zZ3 BK413; have p417 : 0 ≤ (x8_4 : Int) := zD; have q417 : x8_4 < (l0_2.length : Int) := zD; obtain ⟨ad417, e417, hx417_0, hx417_1, hx417_2, hx417_3, hx417_4⟩ := at_T47 HR0_2.out x8_4 p417 q417
              cases e417
              replace hx417_0 := zL HB hx417_0; replace hx417_1 := zL HB hx417_1; replace hx417_2 := zL HB hx417_2; replace hx417_3 := zL HB hx417_3; replace hx417_4 := zL HB hx417_4; replace p417 := eq_true p417; replace q417 := eq_true q417; obtain ⟨hcz42_0, hcz42_1, hcz42_2⟩ := zC3 BK414; obtain ⟨hfz42_0, hfz42_1, hfz42_2⟩ := zZ3 BK414; have p418 : 0 ≤ (x7_3 : Int) := zD; have q418 : x7_3 < (l1_2.length : Int) := zD; obtain ⟨ad418, e418, hx418_0, hx418_1⟩ := at_T78 HR1_2.out x7_3 p418 q418
              cases e418
              replace hx418_0 := zL HB hx418_0; replace hx418_1 := zL HB hx418_1; replace p418 := eq_true p418; replace q418 := eq_true q418
              go_wp2
              repeat (go_quiet (fail); try go_wp2)
              go_roundg k4
              case measure => have := HJ2.out; have := HJ17.out; have := HK3.out; have := HK4.out; omega
              case rel => exact ⟨(x6_4), (wrap64 (x8_4 + 1)), zs, H', ⟨by have := HJ2.out; have := HJ17.out; have := HK3.out; have := HK4.out; omega⟩, ⟨zR HO_6⟩, ⟨zK BK413⟩, ⟨zK BK414⟩, ⟨zB⟩⟩
            ·
             rw [if_neg c30] at H
             have c30b0 := decide_eq_false c30; clear c30; have H' := Zs.mk H; clear H; have hnb43 := NB413_414.out; have hnc43 := NB414_413.out; obtain ⟨hcz44_0, hcz44_1, hcz44_2⟩ := zC3 BK413; obtain ⟨hfz44_0, hfz44_1, hfz44_2⟩ := zZ3 BK413
             go_wp2
             repeat (go_quiet (fail); try go_wp2)
             go_roundg k4
             case measure => have := HJ2.out; have := HJ17.out; have := HK3.out; have := HK4.out; omega
             case rel => exact ⟨(x6_4), (wrap64 (x7_3 + 1)), zs, H', ⟨by have := HJ2.out; have := HJ17.out; have := HK3.out; have := HK4.out; omega⟩, ⟨zR HO_6⟩, ⟨zK BK413⟩, ⟨zK BK414⟩, ⟨zB⟩⟩
         ·
          rw [if_neg c27] at H
          have c27b0 := decide_eq_false c27; clear c27
          by_cases c45 : (x6_3.length : Int) = (l1_2.length : Int)
          ·
           rw [if_pos c45] at H
           obtain ⟨c45b0, c45b1⟩ := zeq c45
           have c45b2 : (x6_3.length == l1_2.length) = true := by first | simpa using c45 | (simp at c45 ⊢; omega)
           clear c45
           simp only [Option.some.injEq, Prod.mk.injEq] at H
           obtain ⟨rfl, rfl⟩ := H; have hnb46 := NB414_413.out; have hnc46 := NB413_414.out; obtain ⟨hcz47_0, hcz47_1, hcz47_2⟩ := zC3 BK414; obtain ⟨hfz47_0, hfz47_1, hfz47_2⟩ := zZ3 BK414; obtain ⟨Ao48, co48, eo48⟩ := Kd.R_slice HO_6.out; subst eo48
           go_wp2
           repeat (go_quiet (fail); try go_wp2)
           go_ret2
           exact ⟨_, zE, zR HO_6, zB⟩
          ·
           rw [if_neg c45] at H
           obtain ⟨c45b0, c45b1⟩ := zne c45
           have c45b2 : (x6_3.length == l1_2.length) = false := by first | simpa using c45 | (simp at c45 ⊢; omega)
           simp only [Option.some.injEq, Prod.mk.injEq] at H
           obtain ⟨rfl, rfl⟩ := H; have hnb49 := NB414_413.out; have hnc49 := NB413_414.out; obtain ⟨hcz50_0, hcz50_1, hcz50_2⟩ := zC3 BK414; obtain ⟨hfz50_0, hfz50_1, hfz50_2⟩ := zZ3 BK414; obtain ⟨Ao51, co51, eo51⟩ := Kd.R_slice HO_6.out; subst eo51
           go_wp2
           repeat (go_quiet (fail); try go_wp2)
           go_ret2
           exact ⟨_, zE, by first | exact Kd.R_nil _ _ _ _ _ | exact Kd.N_nil _ _ _ _ _ | exact Kd.V_nil _ _ _ _ _ | exact Kd.Q_nil _ _ _ _ _ | exact Kd.S_nil _ _ _ _ _, zB⟩
end
end Go.Proofs.YtndojpcjhkncgaaGreatDoor.Q
end
section
namespace Go.Proofs.YtndojpcjhkncgaaGreatDoor.Q
open Go.RowKit Go.Proofs.YtndojpcjhkncgaaGreatDoorW.PrintWords
section
def Inc (L : List S47) : Prop := L.Pairwise fun a b => a.f0 < b.f0
theorem inc_of : ∀ (l : List S47) (last tot : Int), ordersB last tot l = true → Inc l ∧ (∀ o ∈ l, last < o.f0) ∧ ∀ o ∈ l, 1 ≤ o.f0 ∧ o.f0 ≤ 1099511627776
  | [], _, _, _ => ⟨List.Pairwise.nil, by simp, by simp⟩
  | x :: l, last, tot, h => by
    simp only [ordersB, Bool.and_eq_true, decide_eq_true_eq] at h
    obtain ⟨h1, h2, h3⟩ := inc_of l _ _ h.2.2.2
    have hn := orderB_net h.1
    refine ⟨List.Pairwise.cons h2 h1, ?_, ?_⟩
    · intro o ho
      rcases List.mem_cons.mp ho with rfl | ho
      · exact h.2.1
      · have := h2 o ho; have := h.2.1; omega
    · intro o ho
      rcases List.mem_cons.mp ho with rfl | ho
      · omega
      · exact h3 o ho
def withN (L : List S47) (t : Int) : List S47 := L.filter fun o => o.f0 == t
theorem with_one : ∀ (L : List S47), Inc L → ∀ (i : Nat) (h : i < L.length), withN L L[i].f0 = [L[i]]
  | [], _, i, h => by simp at h
  | x :: l, hI, i, h => by
    obtain ⟨h1, h2⟩ := List.pairwise_cons.mp hI
    cases i with
    | zero =>
      have : withN l x.f0 = [] := by
        unfold withN
        rw [List.filter_eq_nil_iff]
        intro o ho
        have := h1 o ho
        simp; omega
      simp only [List.getElem_cons_zero]
      unfold withN at this ⊢
      rw [List.filter_cons, this]
      simp
    | succ i =>
      have hl : i < l.length := by simpa using h
      have := h1 l[i] (List.getElem_mem hl)
      simp only [List.getElem_cons_succ]
      have ih := with_one l h2 i hl
      unfold withN at ih ⊢
      rw [List.filter_cons, ih]
      rw [if_neg (by simp; omega)]
theorem with_none {L : List S47} {t : Int} (h : ∀ o ∈ L, o.f0 ≠ t) : withN L t = [] := by
  unfold withN
  rw [List.filter_eq_nil_iff]
  intro o ho
  simpa using h o ho
theorem with_le (L : List S47) (hI : Inc L) (t : Int) : (withN L t).length ≤ 1 := by
  by_cases h : ∃ i, ∃ h : i < L.length, L[i].f0 = t
  · obtain ⟨i, hi, rfl⟩ := h
    rw [with_one L hI i hi]; simp
  · rw [with_none]; simp
    intro o ho he
    obtain ⟨i, hi, rfl⟩ := List.getElem_of_mem ho
    exact h ⟨i, hi, he⟩
theorem inc_lt {L : List S47} (hI : Inc L) {i j : Nat} (hij : i < j) (hj : j < L.length) : L[i].f0 < L[j].f0 := List.pairwise_iff_getElem.mp hI i j (by omega) hj hij
def Found (L : List S47) (t : Int) (r : Int × Bool) : Prop :=
  (∃ i : Nat, ∃ h : i < L.length, r = ((i : Int), true) ∧ L[i].f0 = t) ∨ (r.2 = false ∧ ∀ o ∈ L, o.f0 ≠ t)
theorem bs_l0 (L : List S47) (hI : Inc L) (hb : ∀ o ∈ L, 1 ≤ o.f0 ∧ o.f0 ≤ 1099511627776) (hL : L.length ≤ 1000) (t : Int) (ht : 1 ≤ t ∧ t ≤ 1099511627776) (d : Nat) : ∀ (lo hi : Nat), lo ≤ hi → hi ≤ L.length → hi - lo ≤ d →
    (∀ j (h : j < L.length), j < lo → L[j].f0 < t) → (∀ j (h : j < L.length), hi ≤ j → t ≤ L[j].f0) → ∃ r, Found L t r ∧ Ev (fun k => aoi.l0 k L t (L.length : Int) (lo : Int) (hi : Int)) r := by
  induction d with
  | zero =>
    intro lo hi h1 h2 h3 hlo hhi
    obtain rfl : lo = hi := by omega
    by_cases hn : lo < L.length
    · have hm := hb L[lo] (List.getElem_mem hn)
      have hge := hhi lo hn (Nat.le_refl _)
      by_cases he : L[lo].f0 = t
      · refine ⟨((lo : Int), true), .inl ⟨lo, hn, rfl, he⟩, Ev.step (fun k => by rw [aoi.l0]) (Ev.neg (by omega) (Ev.pos (by omega) (Ev.pos (by omega) (Ev.pos (by omega) ?_))))⟩
        rw [rdT L lo hn]
        refine Ev.const (show bank_Match_1.f _ _ _ _ _ _ = some _ from rfl) (Ev.ret ?_)
        rw [he, Int.sub_self, w64 (by omega) (by omega)]
        rfl
      · refine ⟨((lo : Int), false), .inr ⟨rfl, ?_⟩, Ev.step (fun k => by rw [aoi.l0]) (Ev.neg (by omega) (Ev.pos (by omega) (Ev.pos (by omega) (Ev.pos (by omega) ?_))))⟩
        · intro o ho hot
          obtain ⟨j, hj, rfl⟩ := List.getElem_of_mem ho
          rcases Nat.lt_trichotomy j lo with h | h | h
          · have := hlo j hj h; omega
          · subst h; exact he hot
          · have := inc_lt hI h hj; omega
        · rw [rdT L lo hn]
          refine Ev.const (show bank_Match_1.f _ _ _ _ _ _ = some _ from rfl) (Ev.ret ?_)
          rw [w64 (by omega) (by omega)]
          have : (L[lo].f0 - t == 0) = false := by simp; omega
          rw [this]
    · refine ⟨((lo : Int), false), .inr ⟨rfl, ?_⟩, Ev.step (fun k => by rw [aoi.l0]) (Ev.neg (by omega) (Ev.neg (by omega) (Ev.now _)))⟩
      intro o ho hot
      obtain ⟨j, hj, rfl⟩ := List.getElem_of_mem ho
      have := hlo j hj (by omega)
      omega
  | succ d ih =>
    intro lo hi h1 h2 h3 hlo hhi
    by_cases hlt : lo < hi
    · have hm : wrap64 ((IntKind.u64.wrap (wrap64 ((lo : Int) + (hi : Int)))) / 2) = (((lo + hi) / 2 : Nat) : Int) := by
        rw [w64 (n := (lo : Int) + (hi : Int)) (by omega) (by omega), IntKind.wrap_u64, w64 (by omega) (by omega)]
        omega
      have hml : (lo + hi) / 2 < L.length := by omega
      obtain ⟨m, hmm⟩ : ∃ m, (lo + hi) / 2 = m := ⟨_, rfl⟩
      rw [hmm] at hm hml
      have hb' := hb L[m] (List.getElem_mem hml)
      by_cases hc : L[m].f0 < t
      · obtain ⟨r, hr, he⟩ := ih (m + 1) hi (by omega) h2 (by omega) (fun j hj hjl => by
          rcases Nat.lt_or_ge j m with h | h
          · have := inc_lt hI h hml; omega
          · obtain rfl : j = m := by omega
            exact hc) hhi
        refine ⟨r, hr, Ev.step (fun k => by rw [aoi.l0]) (Ev.pos (by omega) ?_)⟩
        rw [hm]
        refine Ev.pos (by omega) (Ev.pos (by omega) ?_)
        rw [rdT L m hml]
        refine Ev.const (show bank_Match_1.f _ _ _ _ _ _ = some _ from rfl) ?_
        rw [w64 (n := L[m].f0 - t) (by omega) (by omega), w64 (n := (m : Int) + 1) (by omega) (by omega)]
        exact Ev.pos (by omega) he
      · obtain ⟨r, hr, he⟩ := ih lo m (by omega) (by omega) (by omega) hlo (fun j hj hjl => by
          rcases Nat.lt_or_ge m j with h | h
          · have := inc_lt hI h hj; omega
          · obtain rfl : j = m := by omega
            omega)
        refine ⟨r, hr, Ev.step (fun k => by rw [aoi.l0]) (Ev.pos (by omega) ?_)⟩
        rw [hm]
        refine Ev.pos (by omega) (Ev.pos (by omega) ?_)
        rw [rdT L m hml]
        refine Ev.const (show bank_Match_1.f _ _ _ _ _ _ = some _ from rfl) ?_
        rw [w64 (n := L[m].f0 - t) (by omega) (by omega)]
        exact Ev.neg (by omega) he
    · exact ih lo hi h1 h2 (by omega) hlo hhi
theorem bs_ev (L : List S47) (hI : Inc L) (hb : ∀ o ∈ L, 1 ≤ o.f0 ∧ o.f0 ≤ 1099511627776) (hL : L.length ≤ 1000) (t : Int) (ht : 1 ≤ t ∧ t ≤ 1099511627776) : ∃ r, Found L t r ∧ Ev (fun k => aoi.f k L t) r := by
  unfold aoi.f
  exact bs_l0 L hI hb hL t ht L.length 0 L.length (by omega) (by omega) (by omega) (by omega) (by omega)
def picked (L : List S47) (R : List S49) : List S47 := R.flatMap fun r => withN L r.f0
theorem picked_le (L : List S47) (hI : Inc L) : ∀ (R : List S49), (picked L R).length ≤ R.length
  | [] => by simp [picked]
  | r :: R => by
    have h1 := picked_le L hI R
    have h2 := with_le L hI r.f0
    unfold picked at h1 ⊢
    rw [List.flatMap_cons, List.length_append, List.length_cons]
    omega
def pickS (L : List S47) (R : List S49) : List S47 × Int := if (picked L R).length = R.length then (picked L R, 0) else ([], 6)
theorem match_l0 (L : List S47) (n1 d1 : Int) (hI : Inc L) (hb : ∀ o ∈ L, 1 ≤ o.f0 ∧ o.f0 ≤ 1099511627776) (hL : L.length ≤ 1000) (R : List S49) (hR : R.length ≤ 1000) (hr : ∀ r ∈ R, 1 ≤ r.f0 ∧ r.f0 ≤ 1099511627776) (d : Nat) : ∀ (i : Nat) (pre : List S47), i + d = R.length → pre.length = i →
    Ev (fun k => bank_Match.l0 k pre R (R.length : Int) (i : Int) n1 d1 L) (if (picked L (R.drop i)).length = d then (pre ++ picked L (R.drop i), 0) else ([], 6)) := by
  induction d with
  | zero =>
    intro i pre hi hp
    rw [List.drop_eq_nil_of_le (by omega)]
    exact Ev.step (fun k => by rw [bank_Match.l0]) (Ev.neg (by omega) (Ev.ret (by simp [picked])))
  | succ d ih =>
    intro i pre hi hp
    have hlt : i < R.length := by omega
    rw [drop_get R i hlt]
    refine Ev.step (fun k => by rw [bank_Match.l0]) (Ev.pos (by omega) (Ev.pos (by omega) (Ev.pos (by omega) ?_)))
    rw [rdR R i hlt]
    obtain ⟨r, hf, he⟩ := bs_ev L hI hb hL R[i].f0 (hr _ (List.getElem_mem hlt))
    refine Ev.bind he ?_
    rcases hf with ⟨j, hj, rfl, hjt⟩ | ⟨h2, hno⟩
    · refine Ev.pos rfl (Ev.pos (by show (0 : Int) ≤ (j : Int); omega) (Ev.pos (by show (j : Int) < _; omega) (Ev.pos (by omega) ?_)))
      show Ev (fun k => bank_Match.l0 k (pre ++ [⟨(rTO L (j : Int)).f0, (rTO L (j : Int)).f1, (rTO L (j : Int)).f2, (rTO L (j : Int)).f3, (rTO L (j : Int)).f4⟩]) R (R.length : Int) (wrap64 ((i : Int) + 1)) n1 d1 L) _
      rw [rdT L j hj, w64 (by omega) (by omega)]
      refine Ev.eq (ih (i + 1) (pre ++ [L[j]]) (by omega) (by simp; omega)) ?_
      have hw : withN L R[i].f0 = [L[j]] := by rw [← hjt]; exact with_one L hI j hj
      have e1 : (picked L (R[i] :: R.drop (i + 1))) = [L[j]] ++ picked L (R.drop (i + 1)) := by unfold picked; rw [List.flatMap_cons, hw]
      rw [e1]
      simp only [List.length_append, List.length_cons, List.length_nil]
      by_cases hc : (picked L (R.drop (i + 1))).length = d
      · rw [if_pos hc, if_pos (by omega), List.append_assoc]
      · rw [if_neg hc, if_neg (by omega)]
    · refine Ev.neg (by rw [h2]; simp) (Ev.ret ?_)
      have e1 : (picked L (R[i] :: R.drop (i + 1))) = picked L (R.drop (i + 1)) := by unfold picked; rw [List.flatMap_cons, with_none hno]; rfl
      have := picked_le L hI (R.drop (i + 1))
      rw [List.length_drop] at this
      rw [e1, if_neg (by omega)]
def matchS (n1 d1 : Int) (L : List S47) (n2 d2 : Int) (R : List S49) : List S47 × Int :=
  if validB n1 d1 L = true ∧ rightB n2 d2 R = true then (if n1 = n2 ∧ d1 ≤ d2 then pickS L R else ([], 363)) else ([], 2)
theorem backs_num : ∀ (l : List S49) (last : Int), backsB last l = true → ∀ o ∈ l, 1 ≤ o.f0 ∧ o.f0 ≤ 1099511627776
  | [], _, _, o, ho => by cases ho
  | x :: l, last, h, o, ho => by
    simp only [backsB, backB, countB, Bool.and_eq_true, decide_eq_true_eq] at h
    rcases List.mem_cons.mp ho with rfl | ho
    · omega
    · exact backs_num l _ h.2.2 o ho
theorem right_parts' {n d : Int} {L : List S49} (h : rightB n d L = true) : backsB 0 L = true ∧ datedB n d = true ∧ (L.length : Int) ≤ 1000 := by
  simp only [rightB, Bool.and_eq_true, decide_eq_true_eq] at h
  exact h
theorem sm0 (n1 d1 : Int) (L : List S47) (n2 d2 : Int) (R : List S49) : Ev (fun k => bank_Match.j0 k true n1 d1 L n2 d2 R) ([], 2) := by
  refine Ev.step (fun k => by rw [bank_Match.j0]) ?_
  refine Ev.pos rfl ?_
  exact Ev.ret rfl
theorem Match_ev (n1 d1 : Int) (L : List S47) (n2 d2 : Int) (R : List S49) (hL : (L.length : Int) ≤ 4611686018427387904) (hR : (R.length : Int) ≤ 4611686018427387904) : Ev (fun k => bank_Match.f k n1 d1 L n2 d2 R) (matchS n1 d1 L n2 d2 R) := by
  unfold bank_Match.f matchS
  refine Ev.bind (Valid_ev n1 d1 L hL) ?_
  cases h : validB n1 d1 L with
  | false => exact Ev.neg (by simp) (Ev.eq (sm0 n1 d1 L n2 d2 R) (by simp))
  | true =>
    refine Ev.pos rfl (Ev.bind (Right_ev n2 d2 R hR) ?_)
    cases h2 : rightB n2 d2 R with
    | false => exact Ev.eq (sm0 n1 d1 L n2 d2 R) (by simp)
    | true =>
      refine Ev.step (fun k => by rw [bank_Match.j0]) (Ev.neg (by simp) ?_)
      simp only [true_and, and_self, if_true]
      by_cases h3 : n1 = n2
      · refine Ev.pos h3 ?_
        by_cases h4 : d2 < d1
        · exact Ev.pos h4 (Ev.ret (by rw [if_neg (by omega)]))
        · refine Ev.neg h4 ?_
          rw [if_pos (by omega)]
          have hv := valid_orders h
          have hr := right_parts' h2
          have hi := inc_of L 0 0 hv.2.2
          refine Ev.eq (match_l0 L n1 d1 hi.1 hi.2.2 (by omega) R (by omega) (backs_num R 0 hr.1) R.length 0 [] (by omega) rfl) ?_
          simp [pickS]
      · exact Ev.neg h3 (Ev.ret (by rw [if_neg (by omega)]))
theorem refMatch_l1 (L : List S47) (n1 d1 n2 d2 : Int) (R : List S49) (hI : Inc L) (hL : L.length ≤ 1000) (hR : R.length ≤ 1000) (i : Nat) (hi : i < R.length) (res : List S47 → List S47 × Int) (hk : ∀ out, out.length ≤ i + 1 → Ev (fun k => aR_Match.l0 k out (((i + 1 : Nat) : Int)) n1 d1 L n2 d2 (R.map asRef)) (res out))
    (d : Nat) : ∀ (j : Nat) (out : List S47), j + d = L.length → out.length + (withN (L.drop j) R[i].f0).length ≤ i + 1 →
    Ev (fun k => aR_Match.l1 k out (i : Int) (j : Int) n1 d1 L n2 d2 (R.map asRef)) (res (out ++ withN (L.drop j) R[i].f0)) := by
  have hl : (R.map asRef).length = R.length := List.length_map ..
  induction d with
  | zero =>
    intro j out hj ho
    rw [List.drop_eq_nil_of_le (by omega)] at ho ⊢
    refine Ev.step (fun k => by rw [aR_Match.l1]) (Ev.neg (by omega) ?_)
    rw [w64 (by omega) (by omega)]
    simpa [withN] using hk out (by simpa [withN] using ho)
  | succ d ih =>
    intro j out hj ho
    have hlt : j < L.length := by omega
    rw [drop_get L j hlt] at ho ⊢
    refine Ev.step (fun k => by rw [aR_Match.l1]) (Ev.pos (by omega) (Ev.pos (by omega) (Ev.pos (by omega) (Ev.pos (by omega) ?_))))
    rw [rdT L j hlt, rdP (R.map asRef) i (by omega), List.getElem_map]
    rw [w64 (n := (j : Int) + 1) (by omega) (by omega)]
    by_cases hc : L[j].f0 = R[i].f0
    · have e1 : withN (L[j] :: L.drop (j + 1)) R[i].f0 = [L[j]] ++ withN (L.drop (j + 1)) R[i].f0 := by unfold withN; rw [List.filter_cons, if_pos (by simpa using hc)]; rfl
      rw [e1] at ho ⊢
      rw [List.length_append] at ho
      simp only [List.length_cons, List.length_nil] at ho
      refine Ev.pos hc (Ev.pos (by omega) ?_)
      refine Ev.eq (ih (j + 1) (out ++ [L[j]]) (by omega) (by rw [List.length_append]; simp only [List.length_cons, List.length_nil]; omega)) ?_
      rw [List.append_assoc]
    · have e1 : withN (L[j] :: L.drop (j + 1)) R[i].f0 = withN (L.drop (j + 1)) R[i].f0 := by unfold withN; rw [List.filter_cons, if_neg (by simpa using hc)]
      rw [e1] at ho ⊢
      exact Ev.neg hc (ih (j + 1) out (by omega) ho)
theorem refMatch_l0 (L : List S47) (n1 d1 n2 d2 : Int) (R : List S49) (hI : Inc L) (hL : L.length ≤ 1000) (hR : R.length ≤ 1000) (d : Nat) : ∀ (i : Nat) (out : List S47), i + d = R.length → out.length ≤ i →
    Ev (fun k => aR_Match.l0 k out (i : Int) n1 d1 L n2 d2 (R.map asRef)) (if (out ++ picked L (R.drop i)).length = R.length then (out ++ picked L (R.drop i), 0) else ([], 6)) := by
  have hl : (R.map asRef).length = R.length := List.length_map ..
  induction d with
  | zero =>
    intro i out hi ho
    rw [List.drop_eq_nil_of_le (by omega)]
    simp only [picked, List.flatMap_nil, List.append_nil]
    refine Ev.step (fun k => by rw [aR_Match.l0]) (Ev.neg (by omega) ?_)
    rw [hl]
    by_cases hc : out.length = R.length
    · exact Ev.pos (by omega) (Ev.ret (by rw [if_pos hc]))
    · exact Ev.neg (by omega) (Ev.ret (by rw [if_neg hc]))
  | succ d ih =>
    intro i out hi ho
    have hlt : i < R.length := by omega
    rw [drop_get R i hlt]
    refine Ev.step (fun k => by rw [aR_Match.l0]) (Ev.pos (by omega) ?_)
    have hw := with_le L hI R[i].f0
    have := refMatch_l1 L n1 d1 n2 d2 R hI hL hR i hlt (fun out => if (out ++ picked L (R.drop (i + 1))).length = R.length then (out ++ picked L (R.drop (i + 1)), 0) else ([], 6)) (fun out h => ih (i + 1) out (by omega) h) L.length 0 out (by omega) (by simpa using by omega)
    refine Ev.eq this ?_
    have e1 : (picked L (R[i] :: R.drop (i + 1))) = withN L R[i].f0 ++ picked L (R.drop (i + 1)) := by unfold picked; rw [List.flatMap_cons]
    rw [e1, List.drop_zero, List.append_assoc]
theorem sm1 (n1 d1 : Int) (L : List S47) (n2 d2 : Int) (R : List S78) : Ev (fun k => aR_Match.j0 k true n1 d1 L n2 d2 R) ([], 2) := by
  refine Ev.step (fun k => by rw [aR_Match.j0]) ?_
  refine Ev.pos rfl ?_
  exact Ev.ret rfl
theorem refMatch_ev (n1 d1 : Int) (L : List S47) (n2 d2 : Int) (R : List S49) (hL : (L.length : Int) ≤ 4611686018427387904) (hR : (R.length : Int) ≤ 4611686018427387904) : Ev (fun k => aR_Match.f k n1 d1 L n2 d2 (R.map asRef)) (matchS n1 d1 L n2 d2 R) := by
  unfold aR_Match.f matchS
  refine Ev.bind (refValid_ev n1 d1 L hL) ?_
  cases h : validB n1 d1 L with
  | false => exact Ev.neg (by simp) (Ev.eq (sm1 n1 d1 L n2 d2 (R.map asRef)) (by simp))
  | true =>
    refine Ev.pos rfl (Ev.bind (refRight_ev n2 d2 R hR) ?_)
    cases h2 : rightB n2 d2 R with
    | false => exact Ev.eq (sm1 n1 d1 L n2 d2 (R.map asRef)) (by simp)
    | true =>
      refine Ev.step (fun k => by rw [aR_Match.j0]) (Ev.neg (by simp) ?_)
      simp only [true_and, and_self, if_true]
      by_cases h3 : n1 = n2
      · refine Ev.pos h3 (Ev.step (fun k => by rw [aR_Match.j1]) ?_)
        by_cases h4 : d2 < d1
        · exact Ev.pos (by simpa using h4) (Ev.ret (by rw [if_neg (by omega)]))
        · refine Ev.neg (by simpa using h4) ?_
          rw [if_pos (by omega)]
          have hv := valid_orders h
          have hr := right_parts' h2
          have hi := inc_of L 0 0 hv.2.2
          refine Ev.eq (refMatch_l0 L n1 d1 n2 d2 R hi.1 (by omega) (by omega) R.length 0 [] (by omega) (by simp)) ?_
          simp [pickS]
      · exact Ev.neg h3 (Ev.step (fun k => by rw [aR_Match.j1]) (Ev.pos rfl (Ev.ret (by rw [if_neg (by omega)]))))
end
end Go.Proofs.YtndojpcjhkncgaaGreatDoor.Q
end
section
namespace Go.Proofs.YtndojpcjhkncgaaGreatDoor.Q
open Go.RowKit Go.Proofs.YtndojpcjhkncgaaGreatDoorW.PrintWords Go.Proofs.YtndojpcjhkncgaaGreatDoorW.PrintLast Go.Proofs.YtndojpcjhkncgaaGreatDoorW.PrintMore
section
def aL_two.f  : Option (Int × Int × (List (S47)) × Int × Int × (List (S49))) := some (7, 100, (([(⟨3, 55, 1000, 200, 800⟩ : S47), (⟨4, 56, 50, 0, 50⟩ : S47)] : List (S47))), 7, 102, (([(⟨4, 2⟩ : S49)] : List (S49))))
set_option maxHeartbeats 8000000 in
set_option maxRecDepth 100000 in
theorem aL_two.calls  (r1 : Int) (r2 : Int) (r3 : List (S47)) (r4 : Int) (r5 : Int) (r6 : List (S49)) (w : World) (h : aL_two.f  = some (r1, r2, r3, r4, r5, r6)) :
  Calls Tryz.prog 12 #[] w fun e w' => ∃ v2_ v5_ : Value, e = .returned (.tuple #[.agg #[.int .i64 r1, .int .i64 r2, v2_], .agg #[.int .i64 r4, .int .i64 r5, v5_]]) ∧ Kd.R k47 47 w' w.heap.size (fun _ => True) v2_ r3 ∧ Kd.R k49 49 w' w.heap.size (fun _ => True) v5_ r6 ∧ Below w.heap.size w w' := by
 have hu27 := Tryz.underlying27; have hu30 := Tryz.underlying30; have hu47 := Tryz.underlying47; have hu49 := Tryz.underlying49; have HB := Zs.mk (Below.refl w.heap.size w); have H : (some (7, 100, (([(⟨3, 55, 1000, 200, 800⟩ : S47), (⟨4, 56, 50, 0, 50⟩ : S47)] : List (S47))), 7, 102, (([(⟨4, 2⟩ : S49)] : List (S49))))) = some (r1, r2, r3, r4, r5, r6) := h; clear h
 obtain ⟨y103, hy103⟩ : ∃ y_ : List (S47), y_ = (([(⟨3, 55, 1000, 200, 800⟩ : S47), (⟨4, 56, 50, 0, 50⟩ : S47)] : List (S47))) := ⟨_, rfl⟩
 replace H : (some (7, 100, y103, 7, 102, (([(⟨4, 2⟩ : S49)] : List (S49))))) = some (r1, r2, r3, r4, r5, r6) := by first | (rw [hy103]; with_reducible exact H) | (have H2_ := (Option.bind_some _ _).symm.trans H; rw [hy103]; with_reducible exact H2_) | (have H2_ := (Option.bind_some _ _).symm.trans H; with_reducible exact H2_) | with_reducible exact H | (rw [hy103]; exact H) | exact H
 have Ny103 := Zs.mk hy103; clear hy103
 obtain ⟨y107, hy107⟩ : ∃ y_ : List (S49), y_ = (([(⟨4, 2⟩ : S49)] : List (S49))) := ⟨_, rfl⟩
 replace H : (some (7, 100, y103, 7, 102, y107)) = some (r1, r2, r3, r4, r5, r6) := by first | (rw [hy107]; with_reducible exact H) | (have H2_ := (Option.bind_some _ _).symm.trans H; rw [hy107]; with_reducible exact H2_) | (have H2_ := (Option.bind_some _ _).symm.trans H; with_reducible exact H2_) | with_reducible exact H | (rw [hy107]; exact H) | exact H
 have Ny107 := Zs.mk hy107; clear hy107
 simp only [Option.some.injEq, Prod.mk.injEq] at H
 obtain ⟨rfl, rfl, rfl, rfl, rfl, rfl⟩ := H
 go_enter Tryz.func12, Tryz.ntmps12
 go_wp2_with (first | ((with_reducible refine gkd (N := 0) rfl ?_); refine bxe ?hg (N := 0) ?hd (cs := #[.int .i64 0, .int .i64 0, .slice none 0 0]) (t := 27) ?hr ?_; (case hd => rfl); (case hg => rfl); (case hr => first | (go_simp; done) | (go_simp; rfl)); intro gb101 hg w1 hbox hb; have BK101 := Zs.mk (hbox); have GW101 := zG (w := w) hg; have GE101 := zG (w := w) hg; replace HB := zBs hb; clear hb hbox hg) | ((with_reducible refine gkd (N := 1) rfl ?_); refine bxe ?hg (N := 1) ?hd (cs := #[.int .i64 0, .int .i64 0, .slice none 0 0]) (t := 30) ?hr ?_; (case hd => rfl); (case hg => rfl); (case hr => first | (go_simp; done) | (go_simp; rfl)); intro gb102 hg w2 hbox hb; have BK102 := Zs.mk (hbox); have GW102 := zG (w := w) hg; have GE102 := zG (w := w) hg; replace HB := zBs hb; have NB101_102 := zN hg (zK BK101); have NB102_101 := zM hg (zK BK101); replace BK101 := zKb BK101 hb; clear hb hbox hg) | ((with_reducible refine gkd (N := 5) rfl ?_); refine Kd.R_lit k47 _ 47 ?hg (N := 5) ?hd (xs := ([(⟨3, 55, 1000, 200, 800⟩ : S47), (⟨4, 56, 50, 0, 50⟩ : S47)] : List (S47))) (inner := [.int .i64 3, .int .i64 55, .int .i64 1000, .int .i64 200, .int .i64 800, .int .i64 4, .int .i64 56, .int .i64 50, .int .i64 0, .int .i64 50]) (ok := fun _ => True) (okp := fun _ => True) ?hr ?hp (fun _ hk => hk) trivial (Below.refl _ _) (Nat.le_refl _) (by simp) ?_; (case hd => rfl); (case hg => rfl); (case hr => first | (go_simp; done) | (go_simp; rfl)); (case hp => exact (Reps.c5 (show Kd.M k47 _ _ _ (⟨3, 55, 1000, 200, 800⟩ : S47) [.int .i64 3, .int .i64 55, .int .i64 1000, .int .i64 200, .int .i64 800] from (k47_mkM _ _ _ (⟨3, 55, 1000, 200, 800⟩ : S47) )) (Reps.c5 (show Kd.M k47 _ _ _ (⟨4, 56, 50, 0, 50⟩ : S47) [.int .i64 4, .int .i64 56, .int .i64 50, .int .i64 0, .int .i64 50] from (k47_mkM _ _ _ (⟨4, 56, 50, 0, 50⟩ : S47) )) (Reps.none _ _)))); intro v104 w3 ho4 hb hg_ hnew_; clear hg_ hnew_; (first | rw [← Ny103.out] at ho4 | (simp only [Int.reduceToNat] at ho4; rw [← Ny103.out] at ho4)); have HO105 := Zs.mk (Kd.R_lower ho4 (bsz zB)); replace BK101 := zKb BK101 hb; replace BK102 := zKb BK102 hb; replace HB := zBs hb; clear hb ho4; obtain ⟨Ao5, co5, eo5⟩ := Kd.R_slice HO105.out; subst eo5) | ((with_reducible refine gkd (N := 2) rfl ?_); refine bxe ?hg (N := 2) ?hd (cs := #[.int .i64 0, .int .i64 0, .slice none 0 0]) (t := 27) ?hr ?_; (case hd => rfl); (case hg => rfl); (case hr => first | (go_simp; done) | (go_simp; rfl)); intro gb106 hg w6 hbox hb; replace HO105 := zRb HO105 hb; have BK106 := Zs.mk (hbox); have GW106 := zG (w := w) hg; have GE106 := zG (w := w) hg; replace HB := zBs hb; have NB101_106 := zN hg (zK BK101); have NB106_101 := zM hg (zK BK101); replace BK101 := zKb BK101 hb; have NB102_106 := zN hg (zK BK102); have NB106_102 := zM hg (zK BK102); replace BK102 := zKb BK102 hb; clear hb hbox hg; have hnb7 := NB106_101.out; have hnc7 := NB101_106.out; have hnb8 := NB106_102.out; have hnc8 := NB102_106.out; obtain ⟨hcz9_0, hcz9_1, hcz9_2⟩ := zC3 BK106; obtain ⟨hfz9_0, hfz9_1, hfz9_2⟩ := zZ3 BK106) | ((with_reducible refine gkd (N := 9) rfl ?_); refine Kd.R_lit k49 _ 49 ?hg (N := 9) ?hd (xs := ([(⟨4, 2⟩ : S49)] : List (S49))) (inner := [.int .i64 4, .int .i64 2]) (ok := fun _ => True) (okp := fun _ => True) ?hr ?hp (fun _ hk => hk) trivial (Below.refl _ _) (Nat.le_refl _) (by simp) ?_; (case hd => rfl); (case hg => rfl); (case hr => first | (go_simp; done) | (go_simp; rfl)); (case hp => exact (Reps.c2 (show Kd.M k49 _ _ _ (⟨4, 2⟩ : S49) [.int .i64 4, .int .i64 2] from (k49_mkM _ _ _ (⟨4, 2⟩ : S49) )) (Reps.none _ _))); intro v108 w10 ho11 hb hg_ hnew_; clear hg_ hnew_; (first | rw [← Ny107.out] at ho11 | (simp only [Int.reduceToNat] at ho11; rw [← Ny107.out] at ho11)); replace HO105 := Zs.mk (Kd.R_below (by (with_reducible repeat (first | apply Kd.Ral | apply Kd.Rdn | apply Kd.Rdw)); exact (Kd.R_mono (Kd.R_far (p := ⟨gb106, 2, none⟩) (Kd.R_far (p := ⟨gb106, 1, none⟩) (Kd.R_far (p := ⟨gb106, 0, none⟩) (Kd.Rty HO105.out BK106.out (by decide)) (fun _ hk => hk.2) (.int .i64 7)) (fun _ hk => hk.2) (.int .i64 100)) (fun _ hk => hk.2) (.slice Ao5 y103.length co5)) (fun _ h_ => h_.1))) hb); have HO109 := Zs.mk (Kd.R_lower ho11 (bsz zB)); replace BK101 := Zs.mk (blk_below (zF BK101) hb); replace BK102 := Zs.mk (blk_below (zF BK102) hb); replace BK106 := Zs.mk (blk_below (g := gb106) (o := .cells #[.int .i64 7, .int .i64 100, .slice Ao5 y103.length co5] 27 (0, 0)) (zY BK106) hb); replace HB := zBs hb; clear hb ho11; obtain ⟨Ao12, co12, eo12⟩ := Kd.R_slice HO109.out; subst eo12; have hnb13 := NB101_102.out; have hnc13 := NB102_101.out; obtain ⟨hcz14_0, hcz14_1, hcz14_2⟩ := zC3 BK101; obtain ⟨hfz14_0, hfz14_1, hfz14_2⟩ := zZ3 BK101; obtain ⟨hcz15_0, hcz15_1, hcz15_2⟩ := zC3 BK102; obtain ⟨hfz15_0, hfz15_1, hfz15_2⟩ := zZ3 BK102))
 refine bodyPost_ret (results_cc rfl _ _ gb101 gb102 27 30 #[.int .i64 7, .int .i64 100, .slice Ao5 y103.length co5] #[.int .i64 7, .int .i64 102, .slice Ao12 y107.length co12] (0, 0) (0, 0) _ _ rfl (zY BK101) Tryz.underlying27 rfl (by kernel_rfl) rfl (zY BK102) Tryz.underlying30 rfl (by kernel_rfl)) rfl ?_
 exact ⟨_, _, zE, by (with_reducible repeat (first | apply Kd.Ral | apply Kd.Rdn | apply Kd.Rdw)); exact Kd.R_mono (Kd.R_far (p := ⟨gb102, 2, none⟩) (Kd.R_far (p := ⟨gb102, 1, none⟩) (Kd.R_far (p := ⟨gb102, 0, none⟩) (Kd.R_far (p := ⟨gb101, 2, none⟩) (Kd.R_far (p := ⟨gb101, 1, none⟩) (Kd.R_far (p := ⟨gb101, 0, none⟩) (Kd.Rty (Kd.Rty HO105.out BK101.out (by decide)) BK102.out (by decide)) (fun _ hk => hk.1.2) (.int .i64 7)) (fun _ hk => hk.1.2) (.int .i64 100)) (fun _ hk => hk.1.2) (.slice Ao5 y103.length co5)) (fun _ hk => hk.2) (.int .i64 7)) (fun _ hk => hk.2) (.int .i64 102)) (fun _ hk => hk.2) (.slice Ao12 y107.length co12)) (fun _ hk => trivial), by (with_reducible repeat (first | apply Kd.Ral | apply Kd.Rdn | apply Kd.Rdw)); exact Kd.R_mono (Kd.R_far (p := ⟨gb102, 2, none⟩) (Kd.R_far (p := ⟨gb102, 1, none⟩) (Kd.R_far (p := ⟨gb102, 0, none⟩) (Kd.R_far (p := ⟨gb101, 2, none⟩) (Kd.R_far (p := ⟨gb101, 1, none⟩) (Kd.R_far (p := ⟨gb101, 0, none⟩) (Kd.Rty (Kd.Rty HO109.out BK101.out (by decide)) BK102.out (by decide)) (fun _ hk => hk.1.2) (.int .i64 7)) (fun _ hk => hk.1.2) (.int .i64 100)) (fun _ hk => hk.1.2) (.slice Ao5 y103.length co5)) (fun _ hk => hk.2) (.int .i64 7)) (fun _ hk => hk.2) (.int .i64 102)) (fun _ hk => hk.2) (.slice Ao12 y107.length co12)) (fun _ hk => trivial), zB⟩
end
end Go.Proofs.YtndojpcjhkncgaaGreatDoor.Q
end
