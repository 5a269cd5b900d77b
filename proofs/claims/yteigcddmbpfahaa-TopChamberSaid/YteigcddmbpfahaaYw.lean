import Derived.Test.YteigcddmbpfahaaYt
namespace Go.Proofs.Yteigcddmbpfahaa.Pure
set_option linter.unusedVariables false
open Go.RowKit Go.Proofs.Yteigcddmbpfahaa.Pa Go.Proofs.YteigcddmbpfahaaW.PrintWords Go.Proofs.YteigcddmbpfahaaW.PrintLast Go.Proofs.YteigcddmbpfahaaW.PrintMore
open Go.Proofs.Yteigcddmbpfahaa.Cn

set_option maxRecDepth 100000 in
set_option maxHeartbeats 8000000 in
theorem chamber_d (P : Int) (A : Option Addr) (c : Nat) (bins : List (List S102)) (b0 b1 a0 a1 : Int) (At : Option Addr) (ct : Nat) (lt : List S66) (x2 x3 x4 x5 x6 x7 : Int) (w : World)
    (hr : Kd.C (Kd.slice 102 k102) w A bins.length bins) (hc : bins.length ≤ c) (hrt : Kd.C k66 w At lt.length lt) (hct : lt.length ≤ ct) (c0 : ¬ (50 < (lt.length : Int))) (c1 : ¬ (25 < (bins.length : Int))) (c2 : ¬ (40 < P)) (hsky : SkyG P bins b0 b1 a0 a1) (hrng : RngG lt) (c3 : ¬ (x2 < 0)) (c4 : ¬ ((bins.length : Int) ≤ x2)) (c5 : ¬ (x3 < 0)) (c6 : ¬ (1000000 < x3)) (c7 : ¬ (x4 < 0)) (c8 : ¬ (x3 < x4)) (c9 : ¬ (x5 < 2)) (c10 : ¬ (900000 < x5)) (hbad : (x6 < 0) ∨ (7 < x6) ∨ (x7 < 0) ∨ (100 < x7)) :
    Calls Try.prog 3 #[.agg #[.int .i64 P, .slice A bins.length c, .int .i64 b0, .int .i64 b1, .int .i64 a0, .int .i64 a1], .slice At lt.length ct, .int .i64 x2, .int .i64 x3, .int .i64 x4, .int .i64 x5, .int .i64 x6, .int .i64 x7] w fun e w' => e = .returned (.bool true) ∧ Below w.heap.size w w' := by
  have HBX := Lib.hid (box6 (Blk.new w #[.int .i64 P, .slice A bins.length c, .int .i64 b0, .int .i64 b1, .int .i64 a0, .int .i64 a1] 26))
  have HC := Lib.hid hr
  have HCt := Lib.hid hrt
  have hl0 := Kd.C_max hr
  have hl1 := Kd.C_max hrt
  clear hr hrt
  have q0 : decide (50 < (lt.length : Int)) = false := decide_eq_false c0
  have q1 : decide (25 < (bins.length : Int)) = false := decide_eq_false c1
  have q2 : decide (40 < P) = false := decide_eq_false c2
  have HSK := Lib.hid (fun wx h => overburdenref05_Sky.calls 100 P A c bins b0 b1 a0 a1 _ wx h hc (sky_pure P b0 b1 a0 a1 bins (by omega)))
  have HRG := Lib.hid (fun wx h => overburdenref05_Ranges_go At ct lt wx h)
  rw [decide_eq_true hsky] at HSK
  rw [decide_eq_true hrng] at HRG
  have HSKY := Lib.hid hsky
  have HRNG := Lib.hid hrng
  have hP2 := hsky.p2
  clear hsky hrng
  have q3 : decide (x2 < 0) = false := decide_eq_false c3
  have q4 : decide ((bins.length : Int) ≤ x2) = false := decide_eq_false c4
  have q5 : decide (x3 < 0) = false := decide_eq_false c5
  have q6 : decide (1000000 < x3) = false := decide_eq_false c6
  have q7 : decide (x4 < 0) = false := decide_eq_false c7
  have q8 : decide (x3 < x4) = false := decide_eq_false c8
  have q9 : decide (x5 < 2) = false := decide_eq_false c9
  have q10 : decide (900000 < x5) = false := decide_eq_false c10
  rcases Classical.em (x6 < 0) with c11 | c11
  · have q11 : decide (x6 < 0) = true := decide_eq_true c11
    clear c11
    go_enter Try.func3, Try.ntmps3
    go_wp2_with (first | (go_at_call 8; refine (known20_w _).mono ?_; rintro e w9 ⟨rfl, hb9⟩; have HBEL := Lib.hid hb9; clear hb9) | (go_at_call 6; refine (HSK.out _ (Kd.C_alloc HC.out _)).mono ?_; rintro e w2 ⟨rfl, hb2⟩; have g0 := cell_kb hb2 HBX.out.1; have g1 := cell_kb hb2 HBX.out.2.1; have g2 := cell_kb hb2 HBX.out.2.2.1; have g3 := cell_kb hb2 HBX.out.2.2.2.1; have g4 := cell_kb hb2 HBX.out.2.2.2.2.1; have g5 := cell_kb hb2 HBX.out.2.2.2.2.2; have HW2 := Lib.hid (alloc_below hb2); clear hb2) | (go_at_call 7; refine (HRG.out _ (Kd.C_below HCt.out HW2.out)).mono ?_; rintro e w3 ⟨rfl, hb3⟩; have k0 := cell_kb hb3 g0; have k1 := cell_kb hb3 g1; have k2 := cell_kb hb3 g2; have k3 := cell_kb hb3 g3; have k4 := cell_kb hb3 g4; have k5 := cell_kb hb3 g5; have HW3 := Lib.hid (HW2.out.trans (hb3.mono HW2.out.size)); clear hb3 g0 g1 g2 g3 g4 g5))
    go_ret
    exact ⟨rfl, HW3.out.trans (HBEL.out.mono HW3.out.size)⟩
  have q11 : decide (x6 < 0) = false := decide_eq_false c11
  rcases Classical.em (7 < x6) with c12 | c12
  · have q12 : decide (7 < x6) = true := decide_eq_true c12
    clear c12
    go_enter Try.func3, Try.ntmps3
    go_wp2_with (first | (go_at_call 8; refine (known20_w _).mono ?_; rintro e w9 ⟨rfl, hb9⟩; have HBEL := Lib.hid hb9; clear hb9) | (go_at_call 6; refine (HSK.out _ (Kd.C_alloc HC.out _)).mono ?_; rintro e w2 ⟨rfl, hb2⟩; have g0 := cell_kb hb2 HBX.out.1; have g1 := cell_kb hb2 HBX.out.2.1; have g2 := cell_kb hb2 HBX.out.2.2.1; have g3 := cell_kb hb2 HBX.out.2.2.2.1; have g4 := cell_kb hb2 HBX.out.2.2.2.2.1; have g5 := cell_kb hb2 HBX.out.2.2.2.2.2; have HW2 := Lib.hid (alloc_below hb2); clear hb2) | (go_at_call 7; refine (HRG.out _ (Kd.C_below HCt.out HW2.out)).mono ?_; rintro e w3 ⟨rfl, hb3⟩; have k0 := cell_kb hb3 g0; have k1 := cell_kb hb3 g1; have k2 := cell_kb hb3 g2; have k3 := cell_kb hb3 g3; have k4 := cell_kb hb3 g4; have k5 := cell_kb hb3 g5; have HW3 := Lib.hid (HW2.out.trans (hb3.mono HW2.out.size)); clear hb3 g0 g1 g2 g3 g4 g5))
    go_ret
    exact ⟨rfl, HW3.out.trans (HBEL.out.mono HW3.out.size)⟩
  have q12 : decide (7 < x6) = false := decide_eq_false c12
  rcases Classical.em (x7 < 0) with c13 | c13
  · have q13 : decide (x7 < 0) = true := decide_eq_true c13
    clear c13
    go_enter Try.func3, Try.ntmps3
    go_wp2_with (first | (go_at_call 8; refine (known20_w _).mono ?_; rintro e w9 ⟨rfl, hb9⟩; have HBEL := Lib.hid hb9; clear hb9) | (go_at_call 6; refine (HSK.out _ (Kd.C_alloc HC.out _)).mono ?_; rintro e w2 ⟨rfl, hb2⟩; have g0 := cell_kb hb2 HBX.out.1; have g1 := cell_kb hb2 HBX.out.2.1; have g2 := cell_kb hb2 HBX.out.2.2.1; have g3 := cell_kb hb2 HBX.out.2.2.2.1; have g4 := cell_kb hb2 HBX.out.2.2.2.2.1; have g5 := cell_kb hb2 HBX.out.2.2.2.2.2; have HW2 := Lib.hid (alloc_below hb2); clear hb2) | (go_at_call 7; refine (HRG.out _ (Kd.C_below HCt.out HW2.out)).mono ?_; rintro e w3 ⟨rfl, hb3⟩; have k0 := cell_kb hb3 g0; have k1 := cell_kb hb3 g1; have k2 := cell_kb hb3 g2; have k3 := cell_kb hb3 g3; have k4 := cell_kb hb3 g4; have k5 := cell_kb hb3 g5; have HW3 := Lib.hid (HW2.out.trans (hb3.mono HW2.out.size)); clear hb3 g0 g1 g2 g3 g4 g5))
    go_ret
    exact ⟨rfl, HW3.out.trans (HBEL.out.mono HW3.out.size)⟩
  have q13 : decide (x7 < 0) = false := decide_eq_false c13
  have c14 : 100 < x7 := by omega
  have q14 : decide (100 < x7) = true := decide_eq_true c14
  clear c14 hbad
  go_enter Try.func3, Try.ntmps3
  go_wp2_with (first | (go_at_call 8; refine (known20_w _).mono ?_; rintro e w9 ⟨rfl, hb9⟩; have HBEL := Lib.hid hb9; clear hb9) | (go_at_call 6; refine (HSK.out _ (Kd.C_alloc HC.out _)).mono ?_; rintro e w2 ⟨rfl, hb2⟩; have g0 := cell_kb hb2 HBX.out.1; have g1 := cell_kb hb2 HBX.out.2.1; have g2 := cell_kb hb2 HBX.out.2.2.1; have g3 := cell_kb hb2 HBX.out.2.2.2.1; have g4 := cell_kb hb2 HBX.out.2.2.2.2.1; have g5 := cell_kb hb2 HBX.out.2.2.2.2.2; have HW2 := Lib.hid (alloc_below hb2); clear hb2) | (go_at_call 7; refine (HRG.out _ (Kd.C_below HCt.out HW2.out)).mono ?_; rintro e w3 ⟨rfl, hb3⟩; have k0 := cell_kb hb3 g0; have k1 := cell_kb hb3 g1; have k2 := cell_kb hb3 g2; have k3 := cell_kb hb3 g3; have k4 := cell_kb hb3 g4; have k5 := cell_kb hb3 g5; have HW3 := Lib.hid (HW2.out.trans (hb3.mono HW2.out.size)); clear hb3 g0 g1 g2 g3 g4 g5))
  go_ret
  exact ⟨rfl, HW3.out.trans (HBEL.out.mono HW3.out.size)⟩
end Go.Proofs.Yteigcddmbpfahaa.Pure
