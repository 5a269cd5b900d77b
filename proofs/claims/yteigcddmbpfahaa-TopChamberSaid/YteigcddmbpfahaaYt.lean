import Derived.Test.YteigcddmbpfahaaYs
namespace Go.Proofs.Yteigcddmbpfahaa.Pure
set_option linter.unusedVariables false
open Go.RowKit Go.Proofs.Yteigcddmbpfahaa.Pa Go.Proofs.YteigcddmbpfahaaW.PrintWords Go.Proofs.YteigcddmbpfahaaW.PrintLast Go.Proofs.YteigcddmbpfahaaW.PrintMore
open Go.Proofs.Yteigcddmbpfahaa.Cn

theorem alloc_below {w w' : World} {o : Obj} (h : Below (w.alloc o).heap.size (w.alloc o) w') : Below w.heap.size w w' := ((Below.refl w.heap.size w).alloc (Nat.le_refl _) o).trans (h.mono (by simp))
theorem right_bound {D : Int} {k : Nat} (hk : (k : Int) ≤ D) (t : List Bool → Bool) (n : Nat) : ∀ b, b ≤ 2 ^ n → 0 ≤ sumN (fun b => wOf D k t (outL n b)) b ∧ sumN (fun b => wOf D k t (outL n b)) b ≤ pw D n := by
  intro b hb
  have h0 : ∀ l, 0 ≤ wOf D k t l := by
    intro l; unfold wOf; split
    · exact wT_nn (by omega) hk l
    · omega
  refine ⟨sumN_nn b (fun b _ => h0 _), ?_⟩
  refine Int.le_trans (sumN_up (fun b => h0 _) (2 ^ n) hb) ?_
  rw [sumN_L n (wOf D k t), ← sumL_w D k n]
  apply sumL_le
  intro l _
  unfold wOf; split
  · exact Int.le_refl _
  · exact wT_nn (by omega) hk l
theorem part_bd {a b p : Int} (h : a ≤ b) (hb : b - a ≤ 1000) (h0 : 0 ≤ p) (h1 : p ≤ 100) : 0 ≤ (b - a) * p ∧ (b - a) * p ≤ 100000 ∧ 0 ≤ (b - a) * p / 100 ∧ (b - a) * p / 100 ≤ b - a := by
  have h2 : 0 ≤ (b - a) * p := Int.mul_nonneg (by omega) h0
  have h3 : (b - a) * p ≤ (b - a) * 100 := Int.mul_le_mul_of_nonneg_left h1 (by omega)
  omega
set_option maxRecDepth 100000 in
set_option maxHeartbeats 8000000 in
theorem chamber_a (P : Int) (A : Option Addr) (c : Nat) (bins : List (List S102)) (b0 b1 a0 a1 : Int) (At : Option Addr) (ct : Nat) (lt : List S66) (x2 x3 x4 x5 x6 x7 : Int) (w : World)
    (hr : Kd.C (Kd.slice 102 k102) w A bins.length bins) (hc : bins.length ≤ c) (hrt : Kd.C k66 w At lt.length lt) (hct : lt.length ≤ ct) (hbad : 50 < (lt.length : Int) ∨ 25 < (bins.length : Int) ∨ 40 < P ∨ ¬ SkyG P bins b0 b1 a0 a1 ∨ ¬ RngG lt) :
    Calls Try.prog 3 #[.agg #[.int .i64 P, .slice A bins.length c, .int .i64 b0, .int .i64 b1, .int .i64 a0, .int .i64 a1], .slice At lt.length ct, .int .i64 x2, .int .i64 x3, .int .i64 x4, .int .i64 x5, .int .i64 x6, .int .i64 x7] w fun e w' => e = .returned (.bool true) ∧ Below w.heap.size w w' := by
  have HBX := Lib.hid (box6 (Blk.new w #[.int .i64 P, .slice A bins.length c, .int .i64 b0, .int .i64 b1, .int .i64 a0, .int .i64 a1] 26))
  have HC := Lib.hid hr
  have HCt := Lib.hid hrt
  have hl0 := Kd.C_max hr
  have hl1 := Kd.C_max hrt
  clear hr hrt
  rcases Classical.em (50 < (lt.length : Int)) with c0 | c0
  · have q0 : decide (50 < (lt.length : Int)) = true := decide_eq_true c0
    clear c0
    go_enter Try.func3, Try.ntmps3
    go_wp2_with (first | (go_at_call 8; refine (known20_w _).mono ?_; rintro e w9 ⟨rfl, hb9⟩; have HBEL := Lib.hid hb9; clear hb9))
    go_ret
    exact ⟨rfl, (alloc_below HBEL.out)⟩
  have q0 : decide (50 < (lt.length : Int)) = false := decide_eq_false c0
  rcases Classical.em (25 < (bins.length : Int)) with c1 | c1
  · have q1 : decide (25 < (bins.length : Int)) = true := decide_eq_true c1
    clear c1
    go_enter Try.func3, Try.ntmps3
    go_wp2_with (first | (go_at_call 8; refine (known20_w _).mono ?_; rintro e w9 ⟨rfl, hb9⟩; have HBEL := Lib.hid hb9; clear hb9))
    go_ret
    exact ⟨rfl, (alloc_below HBEL.out)⟩
  have q1 : decide (25 < (bins.length : Int)) = false := decide_eq_false c1
  rcases Classical.em (40 < P) with c2 | c2
  · have q2 : decide (40 < P) = true := decide_eq_true c2
    clear c2
    go_enter Try.func3, Try.ntmps3
    go_wp2_with (first | (go_at_call 8; refine (known20_w _).mono ?_; rintro e w9 ⟨rfl, hb9⟩; have HBEL := Lib.hid hb9; clear hb9))
    go_ret
    exact ⟨rfl, (alloc_below HBEL.out)⟩
  have q2 : decide (40 < P) = false := decide_eq_false c2
  have HSK := Lib.hid (fun wx h => overburdenref05_Sky.calls 100 P A c bins b0 b1 a0 a1 _ wx h hc (sky_pure P b0 b1 a0 a1 bins (by omega)))
  have HRG := Lib.hid (fun wx h => overburdenref05_Ranges_go At ct lt wx h)
  rcases Classical.em (SkyG P bins b0 b1 a0 a1) with hsky | hsky
  case' inr =>
    rw [decide_eq_false hsky] at HSK
    go_enter Try.func3, Try.ntmps3
    go_wp2_with (first | (go_at_call 8; refine (known20_w _).mono ?_; rintro e w9 ⟨rfl, hb9⟩; have HBEL := Lib.hid hb9; clear hb9) | (go_at_call 6; refine (HSK.out _ (Kd.C_alloc HC.out _)).mono ?_; rintro e w2 ⟨rfl, hb2⟩; have g0 := cell_kb hb2 HBX.out.1; have g1 := cell_kb hb2 HBX.out.2.1; have g2 := cell_kb hb2 HBX.out.2.2.1; have g3 := cell_kb hb2 HBX.out.2.2.2.1; have g4 := cell_kb hb2 HBX.out.2.2.2.2.1; have g5 := cell_kb hb2 HBX.out.2.2.2.2.2; have HW2 := Lib.hid (alloc_below hb2); clear hb2))
    go_ret
    exact ⟨rfl, HW2.out.trans (HBEL.out.mono HW2.out.size)⟩
  rw [decide_eq_true hsky] at HSK
  have hrng : ¬ RngG lt := by rcases hbad with h | h | h | h | h
                              · exact absurd h c0
                              · exact absurd h c1
                              · exact absurd h c2
                              · exact absurd hsky h
                              · exact h
  rw [decide_eq_false hrng] at HRG
  clear hbad
  go_enter Try.func3, Try.ntmps3
  go_wp2_with (first | (go_at_call 8; refine (known20_w _).mono ?_; rintro e w9 ⟨rfl, hb9⟩; have HBEL := Lib.hid hb9; clear hb9) | (go_at_call 6; refine (HSK.out _ (Kd.C_alloc HC.out _)).mono ?_; rintro e w2 ⟨rfl, hb2⟩; have g0 := cell_kb hb2 HBX.out.1; have g1 := cell_kb hb2 HBX.out.2.1; have g2 := cell_kb hb2 HBX.out.2.2.1; have g3 := cell_kb hb2 HBX.out.2.2.2.1; have g4 := cell_kb hb2 HBX.out.2.2.2.2.1; have g5 := cell_kb hb2 HBX.out.2.2.2.2.2; have HW2 := Lib.hid (alloc_below hb2); clear hb2) | (go_at_call 7; refine (HRG.out _ (Kd.C_below HCt.out HW2.out)).mono ?_; rintro e w3 ⟨rfl, hb3⟩; have k0 := cell_kb hb3 g0; have k1 := cell_kb hb3 g1; have k2 := cell_kb hb3 g2; have k3 := cell_kb hb3 g3; have k4 := cell_kb hb3 g4; have k5 := cell_kb hb3 g5; have HW3 := Lib.hid (HW2.out.trans (hb3.mono HW2.out.size)); clear hb3 g0 g1 g2 g3 g4 g5))
  go_ret
  exact ⟨rfl, HW3.out.trans (HBEL.out.mono HW3.out.size)⟩
end Go.Proofs.Yteigcddmbpfahaa.Pure
