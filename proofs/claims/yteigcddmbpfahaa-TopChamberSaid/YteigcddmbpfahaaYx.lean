import Derived.Test.YteigcddmbpfahaaYt
namespace Go.Proofs.Yteigcddmbpfahaa.Pure
set_option linter.unusedVariables false
open Go.RowKit Go.Proofs.Yteigcddmbpfahaa.Pa Go.Proofs.YteigcddmbpfahaaW.PrintWords Go.Proofs.YteigcddmbpfahaaW.PrintLast Go.Proofs.YteigcddmbpfahaaW.PrintMore
open Go.Proofs.Yteigcddmbpfahaa.Cn

set_option maxRecDepth 100000 in
set_option maxHeartbeats 8000000 in
theorem chamber_e (P : Int) (A : Option Addr) (c : Nat) (bins : List (List S102)) (b0 b1 a0 a1 : Int) (At : Option Addr) (ct : Nat) (lt : List S66) (x2 x3 x4 x5 x6 x7 : Int) (w : World)
    (hr : Kd.C (Kd.slice 102 k102) w A bins.length bins) (hc : bins.length ≤ c) (hrt : Kd.C k66 w At lt.length lt) (hct : lt.length ≤ ct) (c0 : ¬ (50 < (lt.length : Int))) (c1 : ¬ (25 < (bins.length : Int))) (c2 : ¬ (40 < P)) (hsky : SkyG P bins b0 b1 a0 a1) (hrng : RngG lt) (c3 : ¬ (x2 < 0)) (c4 : ¬ ((bins.length : Int) ≤ x2)) (c5 : ¬ (x3 < 0)) (c6 : ¬ (1000000 < x3)) (c7 : ¬ (x4 < 0)) (c8 : ¬ (x3 < x4)) (c9 : ¬ (x5 < 2)) (c10 : ¬ (900000 < x5)) (c11 : ¬ (x6 < 0)) (c12 : ¬ (7 < x6)) (c13 : ¬ (x7 < 0)) (c14 : ¬ (100 < x7)) (g : expL bins lt x2 (x3 - x4) ≤ expH bins lt x2 x3) :
    Calls Try.prog 3 #[.agg #[.int .i64 P, .slice A bins.length c, .int .i64 b0, .int .i64 b1, .int .i64 a0, .int .i64 a1], .slice At lt.length ct, .int .i64 x2, .int .i64 x3, .int .i64 x4, .int .i64 x5, .int .i64 x6, .int .i64 x7] w fun e w' => e = .returned (.bool true) ∧ Below w.heap.size w w' := by
  have HBX := Lib.hid (box6 (Blk.new w #[.int .i64 P, .slice A bins.length c, .int .i64 b0, .int .i64 b1, .int .i64 a0, .int .i64 a1] 26))
  have HC := Lib.hid hr
  have HCt := Lib.hid hrt
  have hl0 := Kd.C_max hr
  have hl1 := Kd.C_max hrt
  clear hr hrt
  have q0 : decide (50 < (lt.length : Int)) = false := decide_eq_false c0
  have q1 : decide (25 < (bins.length : Int)) = false := decide_eq_false c1
  have q2 : decide (40 < P) = false := decide_eq_false c2
  have HSK := Lib.hid (fun wx h => overburdenref05_Sky.calls 100 P A c bins b0 b1 a0 a1 _ wx h hc (sky_pure P b0 b1 a0 a1 bins (by omega)))
  have HRG := Lib.hid (fun wx h => overburdenref05_Ranges_go At ct lt wx h)
  rw [decide_eq_true hsky] at HSK
  rw [decide_eq_true hrng] at HRG
  have HSKY := Lib.hid hsky
  have HRNG := Lib.hid hrng
  have hP2 := hsky.p2
  clear hsky hrng
  have q3 : decide (x2 < 0) = false := decide_eq_false c3
  have q4 : decide ((bins.length : Int) ≤ x2) = false := decide_eq_false c4
  have q5 : decide (x3 < 0) = false := decide_eq_false c5
  have q6 : decide (1000000 < x3) = false := decide_eq_false c6
  have q7 : decide (x4 < 0) = false := decide_eq_false c7
  have q8 : decide (x3 < x4) = false := decide_eq_false c8
  have q9 : decide (x5 < 2) = false := decide_eq_false c9
  have q10 : decide (900000 < x5) = false := decide_eq_false c10
  have q11 : decide (x6 < 0) = false := decide_eq_false c11
  have q12 : decide (7 < x6) = false := decide_eq_false c12
  have q13 : decide (x7 < 0) = false := decide_eq_false c13
  have q14 : decide (100 < x7) = false := decide_eq_false c14
  have hs := exp_ok HSKY.out HRNG.out (k := x2) (t := x3) (by omega) (by omega) (by omega)
  have hh := exp_ok HSKY.out HRNG.out (k := x2) (t := x3 - x4) (by omega) (by omega) (by omega)
  have hm := exp_mono HSKY.out HRNG.out (k := x2) (s := x3 - x4) (t := x3) (by omega) (by omega) (by omega) (by omega)
  have he1 := fun wx h1 h2 => expected_go P A c bins b0 b1 a0 a1 At ct lt x2 x3 wx h1 hc HSKY.out h2 hct HRNG.out (by omega) (by omega) (by omega) (by omega)
  have he2 := fun wx h1 h2 => expected_go P A c bins b0 b1 a0 a1 At ct lt x2 (x3 - x4) wx h1 hc HSKY.out h2 hct HRNG.out (by omega) (by omega) (by omega) (by omega)
  generalize expL bins lt x2 x3 = sL at *
  generalize expH bins lt x2 x3 = sH at *
  generalize expL bins lt x2 (x3 - x4) = hL at *
  generalize expH bins lt x2 (x3 - x4) = hH at *
  have HE1 := Lib.hid he1
  have HE2 := Lib.hid he2
  clear he1 he2
  obtain ⟨s1, s2, s3⟩ := hs
  obtain ⟨h1, h2, h3⟩ := hh
  obtain ⟨m1, m2⟩ := hm
  have j1 : decide (hL < sL) = false := decide_eq_false (by omega)
  have j2 : decide (hH < sH) = false := decide_eq_false (by omega)
  have j3 : decide (sL < 0) = false := decide_eq_false (by omega)
  have j4 : decide (P < hH) = false := decide_eq_false (by omega)
  have j5 : decide (hL ≤ sH) = true := decide_eq_true g
  go_enter Try.func3, Try.ntmps3
  go_wp2_with (first | (go_at_call 8; refine (known20_w _).mono ?_; rintro e w9 ⟨rfl, hb9⟩; have HBEL := Lib.hid hb9; clear hb9) | (go_at_call 6; refine (HSK.out _ (Kd.C_alloc HC.out _)).mono ?_; rintro e w2 ⟨rfl, hb2⟩; have g0 := cell_kb hb2 HBX.out.1; have g1 := cell_kb hb2 HBX.out.2.1; have g2 := cell_kb hb2 HBX.out.2.2.1; have g3 := cell_kb hb2 HBX.out.2.2.2.1; have g4 := cell_kb hb2 HBX.out.2.2.2.2.1; have g5 := cell_kb hb2 HBX.out.2.2.2.2.2; have HW2 := Lib.hid (alloc_below hb2); clear hb2) | (go_at_call 7; refine (HRG.out _ (Kd.C_below HCt.out HW2.out)).mono ?_; rintro e w3 ⟨rfl, hb3⟩; have k0 := cell_kb hb3 g0; have k1 := cell_kb hb3 g1; have k2 := cell_kb hb3 g2; have k3 := cell_kb hb3 g3; have k4 := cell_kb hb3 g4; have k5 := cell_kb hb3 g5; have HW3 := Lib.hid (HW2.out.trans (hb3.mono HW2.out.size)); clear hb3 g0 g1 g2 g3 g4 g5) | (go_at_call 9; refine (HE2.out _ (Kd.C_below HC.out HW4.out) (Kd.C_below HCt.out HW4.out)).mono ?_; rintro e w5 ⟨rfl, hb5⟩; have hx5 := (hb5.trans ((Below.refl _ w5).alloc hb5.size (.cells #[.int .i64 hL, .int .i64 hH] 24 (0, 0)))); have n0 := cell_kb hx5 m0; have HS5 := Lib.hid (HS4.out.below hx5 HS4.out.lt); have HH5 := Lib.hid (Blk.new w5 #[.int .i64 hL, .int .i64 hH] 24); have n1 := HS5.out.cell 0; have n2 := HS5.out.cell 1; have n3 := HH5.out.cell 0; have n4 := HH5.out.cell 1; simp at n1 n2 n3 n4; have HW5 := Lib.hid (HW4.out.trans (hx5.mono HW4.out.size)); clear hb5 hx5 m0 m1 m2 m3 m4 m5) | (go_at_call 9; refine (HE1.out _ (Kd.C_below HC.out HW3.out) (Kd.C_below HCt.out HW3.out)).mono ?_; rintro e w4 ⟨rfl, hb4⟩; have hx4 := (hb4.trans ((Below.refl w3.heap.size w4).alloc hb4.size (.cells #[.int .i64 sL, .int .i64 sH] 24 (0, 0)))); have m0 := cell_kb hx4 k0; have m1 := cell_kb hx4 k1; have m2 := cell_kb hx4 k2; have m3 := cell_kb hx4 k3; have m4 := cell_kb hx4 k4; have m5 := cell_kb hx4 k5; have HS4 := Lib.hid (Blk.new w4 #[.int .i64 sL, .int .i64 sH] 24); have HW4 := Lib.hid (HW3.out.trans (hx4.mono HW3.out.size)); clear hb4 hx4 k0 k1 k2 k3 k4 k5))
  go_ret
  exact ⟨rfl, HW5.out.trans (HBEL.out.mono HW5.out.size)⟩
end Go.Proofs.Yteigcddmbpfahaa.Pure
