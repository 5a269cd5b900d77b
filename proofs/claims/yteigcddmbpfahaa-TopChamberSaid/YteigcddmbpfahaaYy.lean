import Derived.Test.YteigcddmbpfahaaYt
import Derived.Test.YteigcddmbpfahaaYq
namespace Go.Proofs.Yteigcddmbpfahaa.Pure
set_option linter.unusedVariables false
open Go.RowKit Go.Proofs.Yteigcddmbpfahaa.Pa Go.Proofs.YteigcddmbpfahaaW.PrintWords Go.Proofs.YteigcddmbpfahaaW.PrintLast Go.Proofs.YteigcddmbpfahaaW.PrintMore
open Go.Proofs.Yteigcddmbpfahaa.Cn

set_option maxRecDepth 100000 in
set_option maxHeartbeats 8000000 in
theorem chamber_f (P : Int) (A : Option Addr) (c : Nat) (bins : List (List S102)) (b0 b1 a0 a1 : Int) (At : Option Addr) (ct : Nat) (lt : List S66) (x2 x3 x4 x5 x6 x7 : Int) (w : World)
    (hr : Kd.C (Kd.slice 102 k102) w A bins.length bins) (hc : bins.length ≤ c) (hrt : Kd.C k66 w At lt.length lt) (hct : lt.length ≤ ct) (c0 : ¬ (50 < (lt.length : Int))) (c1 : ¬ (25 < (bins.length : Int))) (c2 : ¬ (40 < P)) (hsky : SkyG P bins b0 b1 a0 a1) (hrng : RngG lt) (c3 : ¬ (x2 < 0)) (c4 : ¬ ((bins.length : Int) ≤ x2)) (c5 : ¬ (x3 < 0)) (c6 : ¬ (1000000 < x3)) (c7 : ¬ (x4 < 0)) (c8 : ¬ (x3 < x4)) (c9 : ¬ (x5 < 2)) (c10 : ¬ (900000 < x5)) (c11 : ¬ (x6 < 0)) (c12 : ¬ (7 < x6)) (c13 : ¬ (x7 < 0)) (c14 : ¬ (100 < x7)) (g : ¬ (expL bins lt x2 (x3 - x4) ≤ expH bins lt x2 x3)) :
    Calls Try.prog 3 #[.agg #[.int .i64 P, .slice A bins.length c, .int .i64 b0, .int .i64 b1, .int .i64 a0, .int .i64 a1], .slice At lt.length ct, .int .i64 x2, .int .i64 x3, .int .i64 x4, .int .i64 x5, .int .i64 x6, .int .i64 x7] w fun e w' => e = .returned (.bool true) ∧ Below w.heap.size w w' := by
  have HBX := Lib.hid (box6 (Blk.new w #[.int .i64 P, .slice A bins.length c, .int .i64 b0, .int .i64 b1, .int .i64 a0, .int .i64 a1] 26))
  have HC := Lib.hid hr
  have HCt := Lib.hid hrt
  have hl0 := Kd.C_max hr
  have hl1 := Kd.C_max hrt
  clear hr hrt
  have q0 : decide (50 < (lt.length : Int)) = false := decide_eq_false c0
  have q1 : decide (25 < (bins.length : Int)) = false := decide_eq_false c1
  have q2 : decide (40 < P) = false := decide_eq_false c2
  have HSK := Lib.hid (fun wx h => overburdenref05_Sky.calls 100 P A c bins b0 b1 a0 a1 _ wx h hc (sky_pure P b0 b1 a0 a1 bins (by omega)))
  have HRG := Lib.hid (fun wx h => overburdenref05_Ranges_go At ct lt wx h)
  rw [decide_eq_true hsky] at HSK
  rw [decide_eq_true hrng] at HRG
  have HSKY := Lib.hid hsky
  have HRNG := Lib.hid hrng
  have hP2 := hsky.p2
  clear hsky hrng
  have q3 : decide (x2 < 0) = false := decide_eq_false c3
  have q4 : decide ((bins.length : Int) ≤ x2) = false := decide_eq_false c4
  have q5 : decide (x3 < 0) = false := decide_eq_false c5
  have q6 : decide (1000000 < x3) = false := decide_eq_false c6
  have q7 : decide (x4 < 0) = false := decide_eq_false c7
  have q8 : decide (x3 < x4) = false := decide_eq_false c8
  have q9 : decide (x5 < 2) = false := decide_eq_false c9
  have q10 : decide (900000 < x5) = false := decide_eq_false c10
  have q11 : decide (x6 < 0) = false := decide_eq_false c11
  have q12 : decide (7 < x6) = false := decide_eq_false c12
  have q13 : decide (x7 < 0) = false := decide_eq_false c13
  have q14 : decide (100 < x7) = false := decide_eq_false c14
  have hs := exp_ok HSKY.out HRNG.out (k := x2) (t := x3) (by omega) (by omega) (by omega)
  have hh := exp_ok HSKY.out HRNG.out (k := x2) (t := x3 - x4) (by omega) (by omega) (by omega)
  have hm := exp_mono HSKY.out HRNG.out (k := x2) (s := x3 - x4) (t := x3) (by omega) (by omega) (by omega) (by omega)
  have he1 := fun wx h1 h2 => expected_go P A c bins b0 b1 a0 a1 At ct lt x2 x3 wx h1 hc HSKY.out h2 hct HRNG.out (by omega) (by omega) (by omega) (by omega)
  have he2 := fun wx h1 h2 => expected_go P A c bins b0 b1 a0 a1 At ct lt x2 (x3 - x4) wx h1 hc HSKY.out h2 hct HRNG.out (by omega) (by omega) (by omega) (by omega)
  generalize expL bins lt x2 x3 = sL at *
  generalize expH bins lt x2 x3 = sH at *
  generalize expL bins lt x2 (x3 - x4) = hL at *
  generalize expH bins lt x2 (x3 - x4) = hH at *
  have HE1 := Lib.hid he1
  have HE2 := Lib.hid he2
  clear he1 he2
  obtain ⟨s1, s2, s3⟩ := hs
  obtain ⟨h1, h2, h3⟩ := hh
  obtain ⟨m1, m2⟩ := hm
  have j1 : decide (hL < sL) = false := decide_eq_false (by omega)
  have j2 : decide (hH < sH) = false := decide_eq_false (by omega)
  have j3 : decide (sL < 0) = false := decide_eq_false (by omega)
  have j4 : decide (P < hH) = false := decide_eq_false (by omega)
  have j5 : decide (hL ≤ sH) = false := decide_eq_false g
  have hp1 := part_bd (a := sL) (b := sH) (p := x7) s2 (by omega) (by omega) (by omega)
  have hp2 := part_bd (a := hL) (b := hH) (p := x7) h2 (by omega) (by omega) (by omega)
  obtain ⟨s, rfl⟩ := Int.eq_ofNat_of_zero_le (show 0 ≤ x6 by omega)
  obtain ⟨D, rfl⟩ := Int.eq_ofNat_of_zero_le (show 0 ≤ P by omega)
  obtain ⟨lo, rfl⟩ := Int.eq_ofNat_of_zero_le (show 0 ≤ sH by omega)
  obtain ⟨hi, rfl⟩ := Int.eq_ofNat_of_zero_le (show 0 ≤ hL by omega)
  obtain ⟨hp11, hp12, hp13, hp14⟩ := hp1
  obtain ⟨hp21, hp22, hp23, hp24⟩ := hp2
  go_enter Try.func3, Try.ntmps3
  go_wp2_with (first | (go_at_call 8; refine (known20_w _).mono ?_; rintro e w9 ⟨rfl, hb9⟩; have HBEL := Lib.hid hb9; clear hb9) | (go_at_call 6; refine (HSK.out _ (Kd.C_alloc HC.out _)).mono ?_; rintro e w2 ⟨rfl, hb2⟩; have g0 := cell_kb hb2 HBX.out.1; have g1 := cell_kb hb2 HBX.out.2.1; have g2 := cell_kb hb2 HBX.out.2.2.1; have g3 := cell_kb hb2 HBX.out.2.2.2.1; have g4 := cell_kb hb2 HBX.out.2.2.2.2.1; have g5 := cell_kb hb2 HBX.out.2.2.2.2.2; have HW2 := Lib.hid (alloc_below hb2); clear hb2) | (go_at_call 7; refine (HRG.out _ (Kd.C_below HCt.out HW2.out)).mono ?_; rintro e w3 ⟨rfl, hb3⟩; have k0 := cell_kb hb3 g0; have k1 := cell_kb hb3 g1; have k2 := cell_kb hb3 g2; have k3 := cell_kb hb3 g3; have k4 := cell_kb hb3 g4; have k5 := cell_kb hb3 g5; have HW3 := Lib.hid (HW2.out.trans (hb3.mono HW2.out.size)); clear hb3 g0 g1 g2 g3 g4 g5) | (go_at_call 9; refine (HE2.out _ (Kd.C_below HC.out HW4.out) (Kd.C_below HCt.out HW4.out)).mono ?_; rintro e w5 ⟨rfl, hb5⟩; have hx5 := (hb5.trans ((Below.refl _ w5).alloc hb5.size (.cells #[.int .i64 (hi : Int), .int .i64 hH] 24 (0, 0)))); have n0 := cell_kb hx5 m0; have HS5 := Lib.hid (HS4.out.below hx5 HS4.out.lt); have HH5 := Lib.hid (Blk.new w5 #[.int .i64 (hi : Int), .int .i64 hH] 24); have n1 := HS5.out.cell 0; have n2 := HS5.out.cell 1; have n3 := HH5.out.cell 0; have n4 := HH5.out.cell 1; simp at n1 n2 n3 n4; have HW5 := Lib.hid (HW4.out.trans (hx5.mono HW4.out.size)); clear hb5 hx5 m0 m1 m2 m3 m4 m5) | (go_at_call 9; refine (HE1.out _ (Kd.C_below HC.out HW3.out) (Kd.C_below HCt.out HW3.out)).mono ?_; rintro e w4 ⟨rfl, hb4⟩; have hx4 := (hb4.trans ((Below.refl w3.heap.size w4).alloc hb4.size (.cells #[.int .i64 sL, .int .i64 (lo : Int)] 24 (0, 0)))); have m0 := cell_kb hx4 k0; have m1 := cell_kb hx4 k1; have m2 := cell_kb hx4 k2; have m3 := cell_kb hx4 k3; have m4 := cell_kb hx4 k4; have m5 := cell_kb hx4 k5; have HS4 := Lib.hid (Blk.new w4 #[.int .i64 sL, .int .i64 (lo : Int)] 24); have HW4 := Lib.hid (HW3.out.trans (hx4.mono HW3.out.size)); clear hb4 hx4 k0 k1 k2 k3 k4 k5))
  go_region
  go_wp2_with fail
  clear n3 n4
  obtain ⟨wd, hwd⟩ : ∃ wd, (w5.alloc (.cells #[.int .i64 (hi : Int), .int .i64 hH] 24 (0, 0))).drew = wd := ⟨_, rfl⟩
  rw [hwd]
  have v0 : wd.cell? ⟨w.heap.size, 0, none⟩ = some (.int .i64 (D : Int)) := by rw [← hwd]; exact n0
  have v2 : wd.cell? ⟨w4.heap.size, 1, none⟩ = some (.int .i64 (lo : Int)) := by rw [← hwd]; exact HS5.out.cell 1
  have v3 : wd.cell? ⟨w5.heap.size, 0, none⟩ = some (.int .i64 (hi : Int)) := by rw [← hwd]; exact HH5.out.cell 0
  have HWd := Lib.hid (show Below w.heap.size w wd by rw [← hwd]; exact HW5.out.drew)
  clear hwd n0 n1 n2 HS5 HH5 HW5 HS4 HW4 HW3 HW2 HE1 HE2 HSK HRG HBX HC HCt
  obtain ⟨k1, hk1⟩ : ∃ k1 : Nat, sL + ((lo : Int) - sL) * x7 / 100 = (k1 : Int) := ⟨_, (Int.toNat_of_nonneg (by omega)).symm⟩
  obtain ⟨k2, hk2⟩ : ∃ k2 : Nat, (hi : Int) + (hH - (hi : Int)) * x7 / 100 = (k2 : Int) := ⟨_, (Int.toNat_of_nonneg (by omega)).symm⟩
  rw [hk1, hk2]
  have hlk1 : k1 ≤ lo := by omega
  have hlk2 : hi ≤ k2 := by omega
  have hlk3 : k2 ≤ D := by omega
  have hlh : lo < hi := by omega
  have hhD : hi ≤ D := by omega
  clear hk1 hk2 hp11 hp12 hp13 hp14 hp21 hp22 hp23 hp24 s1 s2 s3 h1 h2 h3 m1 m2 j1 j2 j3 j4 j5 g
  have hps : ∀ i, i ≤ s → 1 ≤ pw (D : Int) i ∧ pw (D : Int) i ≤ 262144000000000 := fun i hi => ⟨pw_pos (by omega) i, pw_small (by omega) (by omega) (by omega)⟩
  have hbd1 := right_bound (D := D) (k := k1) (by omega) (rightT D lo hi x5 k1) s
  have hbd2 := right_bound (D := D) (k := k2) (by omega) (rightT D lo hi x5 k2) s
  have hsure1 := sure (D := D) (A := x5) (k := k1) (by omega) (by omega) (by omega) s (Cn.start k1) (run_start D k1) (rightT D lo hi x5 k1) (fun l h => right_out (by omega) l h) (worth_start x5 k1)
  have hsure2 := sure (D := D) (A := x5) (k := k2) (by omega) (by omega) (by omega) s (Cn.start k2) (run_start D k2) (rightT D lo hi x5 k2) (fun l h => right_out (by omega) l h) (worth_start x5 k2)
  rw [← sumN_L s (wOf D k1 (rightT D lo hi x5 k1))] at hsure1
  rw [← sumN_L s (wOf D k2 (rightT D lo hi x5 k2))] at hsure2
  obtain ⟨N, hN⟩ : ∃ N : Nat, 2 ^ s = N := ⟨_, rfl⟩
  have hN2 : N ≤ 512 := by rw [← hN]; exact Nat.pow_le_pow_right (n := 2) (j := 9) (by omega) (by omega)
  have hpw : wrap64 (2 ^ s) = (N : Int) := by
    rw [← hN, show ((2 : Int) ^ s) = ((2 ^ s : Nat) : Int) by simp, hN]; unfold wrap64; omega
  rw [hN] at hbd1 hbd2 hsure1 hsure2
  obtain ⟨G1, hG1⟩ : ∃ G, G = sumN (fun b => wOf D k1 (rightT D lo hi x5 k1) (outL s b)) := ⟨_, rfl⟩
  obtain ⟨G2, hG2⟩ : ∃ G, G = sumN (fun b => wOf D k2 (rightT D lo hi x5 k2) (outL s b)) := ⟨_, rfl⟩
  rw [← hG1] at hbd1 hsure1
  rw [← hG2] at hbd2 hsure2
  have HGS1 := Lib.hid (show ∀ b, G1 (b + 1) = G1 b + wOf D k1 (rightT D lo hi x5 k1) (outL s b) from fun b => by rw [hG1]; rfl)
  have HGS2 := Lib.hid (show ∀ b, G2 (b + 1) = G2 b + wOf D k2 (rightT D lo hi x5 k2) (outL s b) from fun b => by rw [hG2]; rfl)
  have HG01 := Lib.hid (show G1 0 = 0 by rw [hG1]; rfl)
  have HG02 := Lib.hid (show G2 0 = 0 by rw [hG2]; rfl)
  have hdv1 := Int.le_ediv_of_mul_le (show 0 < x5 by omega) (show G1 N * x5 ≤ pw D s by rw [Int.mul_comm]; exact hsure1)
  have hdv2 := Int.le_ediv_of_mul_le (show 0 < x5 by omega) (show G2 N * x5 ≤ pw D s by rw [Int.mul_comm]; exact hsure2)
  have xq1 : decide (G1 N ≤ pw (D : Int) s / x5) = true := decide_eq_true hdv1
  have xq2 : decide (G2 N ≤ pw (D : Int) s / x5) = true := decide_eq_true hdv2
  have hall := hps s (Nat.le_refl _)
  have HBD1 := Lib.hid hbd1
  have HBD2 := Lib.hid hbd2
  have HPS := Lib.hid hps
  have HNUM := Lib.hid (show s ≤ 7 ∧ 2 ≤ D ∧ D ≤ 40 ∧ (2 : Int) ≤ x5 ∧ x5 ≤ 900000 ∧ k1 ≤ lo ∧ lo < hi ∧ hi ≤ D ∧ hi ≤ k2 ∧ k2 ≤ D ∧ N ≤ 512 from ⟨by omega, by omega, by omega, by omega, by omega, hlk1, hlh, hhD, hlk2, hlk3, hN2⟩)
  have HPW := Lib.hid hpw
  have HXQ := Lib.hid (And.intro xq1 (And.intro xq2 hall))
  have HV := Lib.hid (And.intro v2 v3)
  clear hsure1 hsure2 hdv1 hdv2 hbd1 hbd2 hps hG1 hG2 q0 q1 q2 q3 q4 q5 q6 q7 q8 q9 q10 q11 q12 q13 q14
  clear hpw xq1 xq2 hall v2 v3 hN hN2 hlk1 hlk2 hlk3 hlh hhD c0 c1 c2 c3 c4 c5 c6 c7 c8 c9 c10 c11 c12 c13 c14 hP2 hl0 hl1 hc hct HSKY HRNG
  refine ch_loop1 (s := s) (D := D) (bx := w.heap.size) (wd := wd) ⟨HNUM.out.2.1, HNUM.out.2.2.1, HNUM.out.1⟩ v0 ?_
  intros
  go_wp2_with fail
  refine ch_loop2 (i := s) (D := D) (bx := w.heap.size) (bs := w4.heap.size) (bh := w5.heap.size) (lo := lo) (hi := hi) (k1 := k1) (k2 := k2) (M := N) (x5 := x5) (G1 := G1) (G2 := G2) (wd := wd) HNUM HPW v0 HV HGS1 HGS2 HG01 HG02 HBD1 HBD2 HXQ.out.2.2 ?_
  intros
  rename_i w8 hb8
  have HB8 := Lib.hid hb8
  obtain ⟨xq1, xq2, hall⟩ := HXQ.out
  obtain ⟨z1, z2, z3, z4, z5, -⟩ := HNUM.out
  clear hb8 v0
  go_wp2_with (go_at_call 8; refine (known20_w _).mono ?_; rintro e w9 ⟨rfl, hb9⟩; have HBEL := Lib.hid hb9; clear hb9)
  go_ret
  exact ⟨rfl, (HWd.out.trans (HB8.out.mono HWd.out.size)).trans (HBEL.out.mono (HWd.out.trans (HB8.out.mono HWd.out.size)).size)⟩
end Go.Proofs.Yteigcddmbpfahaa.Pure
