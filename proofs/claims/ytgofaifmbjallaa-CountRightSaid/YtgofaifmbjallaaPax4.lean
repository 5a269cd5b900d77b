/- Printed by our own driver (wip/drive.py) over the kit's print. -/
import Derived.Test.YtgofaifmbjallaaPax0
namespace Go.Proofs.Ytgofaifmbjallaa.Pa
open Go.RowKit Go.Proofs.YtgofaifmbjallaaW.PrintWords Go.Proofs.YtgofaifmbjallaaW.PrintLast Go.Proofs.YtgofaifmbjallaaW.PrintMore
open Go.Proofs.Ytgofaifmbjallaa.Cn
attribute [local go_sem] max2_int min2_int max_two min_two max_three min_three max_four min_four   -- for this text's walks alone
set_option linter.unusedVariables false
set_option linter.unusedSimpArgs false

/-! ### overburdenref07_Bet: function 18 -/
mutual
def overburdenref07_Bet.j0 : Nat → Int → Int → Int → Int → Int → Int → Int → Option (Int × Int)
  | 0, _, _, _, _, _, _, _ => none
  | k + 1, x0, x1, x2, x3, x4, x12, x13 => if x4 < x3 then (if (wrap64 ((wrap64 (x1 + 2)) * (wrap64 (x3 - x4)))) = 0 then (none) else (overburdenref07_Bet.j1 k x0 x3 x4 x12 (mn 1000000000000 (wrap64 (Int.tdiv (wrap64 ((wrap64 (x0 * (wrap64 ((wrap64 (x1 - x2)) + 1)))) * x3)) (wrap64 ((wrap64 (x1 + 2)) * (wrap64 (x3 - x4))))))))) else (overburdenref07_Bet.j1 k x0 x3 x4 x12 x13)
def overburdenref07_Bet.j1 : Nat → Int → Int → Int → Int → Int → Option (Int × Int)
  | 0, _, _, _, _, _ => none
  | k + 1, x0, x3, x4, x12, x13 => if x4 = 0 then (if x4 = x3 then (some (x0, x0)) else (some (x12, x0))) else (if x4 = x3 then (some (x0, x13)) else (some (x12, x13)))
end
def overburdenref07_Bet.f (k : Nat) (a0 : Int) (a1 : Int) (a2 : Int) (a3 : Int) (a4 : Int) : Option (Int × Int) := if a4 > 0 then (if (wrap64 ((wrap64 (a1 + 2)) * a4)) = 0 then (none) else (overburdenref07_Bet.j0 k a0 a1 a2 a3 a4 (mn 1000000000000 (wrap64 (Int.tdiv (wrap64 ((wrap64 (a0 * (wrap64 (a2 + 1)))) * a3)) (wrap64 ((wrap64 (a1 + 2)) * a4))))) 1000000000000)) else (overburdenref07_Bet.j0 k a0 a1 a2 a3 a4 1000000000000 1000000000000)
theorem overburdenref07_Bet.mono_l : ∀ k, (∀ y0 y1 y2 y3 y4 y5 y6, LeO (overburdenref07_Bet.j0 k y0 y1 y2 y3 y4 y5 y6) (overburdenref07_Bet.j0 (k + 1) y0 y1 y2 y3 y4 y5 y6)) ∧ (∀ y0 y1 y2 y3 y4, LeO (overburdenref07_Bet.j1 k y0 y1 y2 y3 y4) (overburdenref07_Bet.j1 (k + 1) y0 y1 y2 y3 y4))
  | 0 => ⟨fun _ _ _ _ _ _ _ r h => by simp [overburdenref07_Bet.j0] at h, fun _ _ _ _ _ r h => by simp [overburdenref07_Bet.j1] at h⟩
  | k + 1 => by
    obtain ⟨ih0, ih1⟩ := overburdenref07_Bet.mono_l k
    refine ⟨?_, ?_⟩
    · intro y0 y1 y2 y3 y4 y5 y6
      unfold overburdenref07_Bet.j0
      repeat' first
      | (with_reducible exact ih0 _ _ _ _ _ _ _)
      | (with_reducible exact ih1 _ _ _ _ _)
      | (with_reducible exact LeO.refl _)
      | (with_reducible exact LeO.none _)
      | (with_reducible refine LeO.ite ?_ ?_)
      | (with_reducible refine LeO.bind ?_ (fun _ => ?_))
      | exact ih0 _ _ _ _ _ _ _
      | exact ih1 _ _ _ _ _
      | exact LeO.none _
      | refine LeO.ite ?_ ?_
      | refine LeO.bind ?_ (fun _ => ?_)
    · intro y0 y1 y2 y3 y4
      unfold overburdenref07_Bet.j1
      repeat' first
      | (with_reducible exact ih0 _ _ _ _ _ _ _)
      | (with_reducible exact ih1 _ _ _ _ _)
      | (with_reducible exact LeO.refl _)
      | (with_reducible exact LeO.none _)
      | (with_reducible refine LeO.ite ?_ ?_)
      | (with_reducible refine LeO.bind ?_ (fun _ => ?_))
      | exact ih0 _ _ _ _ _ _ _
      | exact ih1 _ _ _ _ _
      | exact LeO.none _
      | refine LeO.ite ?_ ?_
      | refine LeO.bind ?_ (fun _ => ?_)
theorem overburdenref07_Bet.mono : ∀ a0 a1 a2 a3 a4 k, LeO (overburdenref07_Bet.f k a0 a1 a2 a3 a4) (overburdenref07_Bet.f (k + 1) a0 a1 a2 a3 a4) := by
  intro a0 a1 a2 a3 a4 k
  obtain ⟨ih0, ih1⟩ := overburdenref07_Bet.mono_l k
  unfold overburdenref07_Bet.f
  repeat' first
      | (with_reducible exact ih0 _ _ _ _ _ _ _)
      | (with_reducible exact ih1 _ _ _ _ _)
      | (with_reducible exact LeO.refl _)
      | (with_reducible exact LeO.none _)
      | (with_reducible refine LeO.ite ?_ ?_)
      | (with_reducible refine LeO.bind ?_ (fun _ => ?_))
      | exact ih0 _ _ _ _ _ _ _
      | exact ih1 _ _ _ _ _
      | exact LeO.none _
      | refine LeO.ite ?_ ?_
      | refine LeO.bind ?_ (fun _ => ?_)
set_option maxHeartbeats 8000000 in
set_option maxRecDepth 100000 in
theorem overburdenref07_Bet.calls (k : Nat) (a0 : Int) (a1 : Int) (a2 : Int) (a3 : Int) (a4 : Int) (r1 : Int) (r2 : Int) (w : World) (h : overburdenref07_Bet.f k a0 a1 a2 a3 a4 = some (r1, r2)) :
    Calls Try.prog 18 #[.int .i64 a0, .int .i64 a1, .int .i64 a2, .int .i64 a3, .int .i64 a4] w fun e w' => e = .returned (.tuple #[.int .i64 r1, .int .i64 r2]) ∧ Below w.heap.size w w' := by
  have HB := Aside0.mk (Below.refl w.heap.size w)
  have H : (if a4 > 0 then (if (wrap64 ((wrap64 (a1 + 2)) * a4)) = 0 then (none) else (overburdenref07_Bet.j0 k a0 a1 a2 a3 a4 (mn 1000000000000 (wrap64 (Int.tdiv (wrap64 ((wrap64 (a0 * (wrap64 (a2 + 1)))) * a3)) (wrap64 ((wrap64 (a1 + 2)) * a4))))) 1000000000000)) else (overburdenref07_Bet.j0 k a0 a1 a2 a3 a4 1000000000000 1000000000000)) = some (r1, r2) := h
  clear h
  have HC6 := Aside0.mk H
  clear H
  go_enter Try.func18, Try.ntmps18
  go_upto_if 15 with (fail)
  go_cut [12] (fun v12 wc => ∃ (kq : Nat) (x12_5 : Int), v12 = .int .i64 x12_5 ∧ Aside0 (overburdenref07_Bet.j0 kq a0 a1 a2 a3 a4 x12_5 1000000000000 = some (r1, r2)) ∧ Aside0 (kq ≤ k) ∧ Aside0 (Below w.heap.size w wc))
  case first =>
    have H := HC6.out
    clear HC6
    by_cases c7 : a4 > 0
    · rw [if_pos c7] at H
      have c7b0 : decide (0 < a4) = true := decide_eq_true c7
      clear c7
      (first | rw [c7b0] | (simp only [i64_w, i32_w]; rw [c7b0]) | skip)
      by_cases c8 : (wrap64 ((wrap64 (a1 + 2)) * a4)) = 0
      · rw [if_pos c8] at H
        exact absurd H (by simp)
      · rw [if_neg c8] at H
        have c8b0 : ((wrap64 ((wrap64 (a1 + 2)) * a4)) == 0) = false := beq_eq_false_iff_ne.mpr c8
        have c8b1 : ((wrap64 ((wrap64 (a1 + 2)) * a4)) != 0) = true := bne_iff_ne.mpr c8
        obtain ⟨ji9, hji9⟩ : ∃ j_ : Int, (mn 1000000000000 (wrap64 (Int.tdiv (wrap64 ((wrap64 (a0 * (wrap64 (a2 + 1)))) * a3)) (wrap64 ((wrap64 (a1 + 2)) * a4))))) = j_ := ⟨_, rfl⟩
        replace H : (overburdenref07_Bet.j0 k a0 a1 a2 a3 a4 ji9 1000000000000) = some (r1, r2) := by first | (rw [hji9] at H; exact H) | (simp only [hji9] at H ⊢; exact H)
        (try (have hji9h : ji9 ≤ 1000000000000 := by (rw [← hji9]; unfold mn; (repeat' split) <;> omega)))
        (try (have hji9g : ji9 ≤ 64 := by omega))
        have hji9_ : (if (wrap64 (Int.tdiv (wrap64 ((wrap64 (a0 * (wrap64 (a2 + 1)))) * a3)) (wrap64 ((wrap64 (a1 + 2)) * a4)))) < 1000000000000 then (wrap64 (Int.tdiv (wrap64 ((wrap64 (a0 * (wrap64 (a2 + 1)))) * a3)) (wrap64 ((wrap64 (a1 + 2)) * a4)))) else 1000000000000) = ji9 := hji9
        have H' := Aside0.mk H
        clear H
        go_wp2
        go_meet
        case rel => exact ⟨_, (ji9), (by first | rfl | (simp; done) | (simp only [← hji9] <;> (first | rfl | simp)) | (simp [*]; done)), H', ⟨by first | omega | exact Nat.le_refl _⟩, ⟨by repeat (first | (with_reducible first | exact HB.out | apply below_alloc | apply pw_below_drewN | apply below_drew1) | exact HB.out)⟩⟩
    · rw [if_neg c7] at H
      have c7b0 : decide (0 < a4) = false := decide_eq_false c7
      clear c7
      (first | rw [c7b0] | (simp only [i64_w, i32_w]; rw [c7b0]) | skip)
      have H' := Aside0.mk H
      clear H
      go_wp2
      go_meet
      case rel => exact ⟨_, (1000000000000), (by first | rfl | (simp; done) | (simp [*]; done)), H', ⟨by first | omega | exact Nat.le_refl _⟩, ⟨by repeat (first | (with_reducible first | exact HB.out | apply below_alloc | apply pw_below_drewN | apply below_drew1) | exact HB.out)⟩⟩
  case rest =>
    clear HC6
    try clear c1
    try clear p2
    try clear p6
    try clear c7
    try clear c7b0
    try clear c8
    try clear c8b0
    try clear c8b1
    obtain ⟨kq, x12_5, rfl, HA, HJ5, HB⟩ := hcut
    cases kq with
    | zero => exact absurd HA.out (by simp [overburdenref07_Bet.j0])
    | succ kj5 =>
      have H := HA.out
      clear HA
      simp only [overburdenref07_Bet.j0] at H
      have HC10 := Aside0.mk H
      clear H
      go_upto_if 30 with (fail)
      go_cut [13] (fun v13 wc => ∃ (kq : Nat) (x13_9 : Int), v13 = .int .i64 x13_9 ∧ Aside0 (overburdenref07_Bet.j1 kq a0 a3 a4 x12_5 x13_9 = some (r1, r2)) ∧ Aside0 (kq ≤ kj5) ∧ Aside0 (Below w.heap.size w wc))
      case first =>
        have H := HC10.out
        clear HC10
        by_cases c11 : a4 < a3
        · rw [if_pos c11] at H
          have c11b0 : decide (a4 < a3) = true := decide_eq_true c11
          clear c11
          (first | rw [c11b0] | (simp only [i64_w, i32_w]; rw [c11b0]) | skip)
          by_cases c12 : (wrap64 ((wrap64 (a1 + 2)) * (wrap64 (a3 - a4)))) = 0
          · rw [if_pos c12] at H
            exact absurd H (by simp)
          · rw [if_neg c12] at H
            have c12b0 : ((wrap64 ((wrap64 (a1 + 2)) * (wrap64 (a3 - a4)))) == 0) = false := beq_eq_false_iff_ne.mpr c12
            have c12b1 : ((wrap64 ((wrap64 (a1 + 2)) * (wrap64 (a3 - a4)))) != 0) = true := bne_iff_ne.mpr c12
            obtain ⟨ji13, hji13⟩ : ∃ j_ : Int, (mn 1000000000000 (wrap64 (Int.tdiv (wrap64 ((wrap64 (a0 * (wrap64 ((wrap64 (a1 - a2)) + 1)))) * a3)) (wrap64 ((wrap64 (a1 + 2)) * (wrap64 (a3 - a4))))))) = j_ := ⟨_, rfl⟩
            replace H : (overburdenref07_Bet.j1 kj5 a0 a3 a4 x12_5 ji13) = some (r1, r2) := by first | (rw [hji13] at H; exact H) | (simp only [hji13] at H ⊢; exact H)
            have hji13_ : (if (wrap64 (Int.tdiv (wrap64 ((wrap64 (a0 * (wrap64 ((wrap64 (a1 - a2)) + 1)))) * a3)) (wrap64 ((wrap64 (a1 + 2)) * (wrap64 (a3 - a4)))))) < 1000000000000 then (wrap64 (Int.tdiv (wrap64 ((wrap64 (a0 * (wrap64 ((wrap64 (a1 - a2)) + 1)))) * a3)) (wrap64 ((wrap64 (a1 + 2)) * (wrap64 (a3 - a4)))))) else 1000000000000) = ji13 := hji13
            have H' := Aside0.mk H
            clear H
            go_wp2
            go_meet
            case rel => exact ⟨_, (ji13), (by first | rfl | (simp; done) | (simp only [← hji13] <;> (first | rfl | simp)) | (simp [*]; done)), H', ⟨by have := HJ5.out; first | omega | exact Nat.le_refl _⟩, ⟨by repeat (first | (with_reducible first | exact HB.out | apply below_alloc | apply pw_below_drewN | apply below_drew1) | exact HB.out)⟩⟩
        · rw [if_neg c11] at H
          have c11b0 : decide (a4 < a3) = false := decide_eq_false c11
          clear c11
          (first | rw [c11b0] | (simp only [i64_w, i32_w]; rw [c11b0]) | skip)
          have H' := Aside0.mk H
          clear H
          go_wp2
          go_meet
          case rel => exact ⟨_, (1000000000000), (by first | rfl | (simp; done) | (simp [*]; done)), H', ⟨by have := HJ5.out; first | omega | exact Nat.le_refl _⟩, ⟨by repeat (first | (with_reducible first | exact HB.out | apply below_alloc | apply pw_below_drewN | apply below_drew1) | exact HB.out)⟩⟩
      case rest =>
        clear HC10
        try clear c1
        try clear p2
        try clear p6
        try clear c7
        try clear c7b0
        try clear c8
        try clear c8b0
        try clear c8b1
        try clear c11
        try clear c11b0
        try clear c12
        try clear c12b0
        try clear c12b1
        try clear p2
        try clear p6
        obtain ⟨kq, x13_9, rfl, HA, HJ9, HB⟩ := hcut
        cases kq with
        | zero => exact absurd HA.out (by simp [overburdenref07_Bet.j1])
        | succ kj9 =>
          have H := HA.out
          clear HA
          simp only [overburdenref07_Bet.j1] at H
          by_cases c14 : a4 = 0
          · rw [if_pos c14] at H
            have c14b0 : (a4 == 0) = true := beq_iff_eq.mpr c14
            have c14b1 : (a4 != 0) = false := bne_eq_false_iff_eq.mpr c14
            clear c14
            by_cases c15 : a4 = a3
            · rw [if_pos c15] at H
              have c15b0 : (a4 == a3) = true := beq_iff_eq.mpr c15
              have c15b1 : (a4 != a3) = false := bne_eq_false_iff_eq.mpr c15
              clear c15
              simp only [Option.some.injEq, Prod.mk.injEq] at H
              obtain ⟨rfl, rfl⟩ := H
              go_wp2
              go_ret2
              exact ⟨by first | rfl | (simp [errW_none, errW_some] <;> rfl) | (simp [*, errW_none, errW_some] <;> rfl), by repeat (first | (with_reducible first | exact HB.out | apply below_alloc | apply pw_below_drewN | apply below_drew1) | exact HB.out)⟩
            · rw [if_neg c15] at H
              have c15b0 : (a4 == a3) = false := beq_eq_false_iff_ne.mpr c15
              have c15b1 : (a4 != a3) = true := bne_iff_ne.mpr c15
              simp only [Option.some.injEq, Prod.mk.injEq] at H
              obtain ⟨rfl, rfl⟩ := H
              go_wp2
              go_ret2
              exact ⟨by first | rfl | (simp [errW_none, errW_some] <;> rfl) | (simp [*, errW_none, errW_some] <;> rfl), by repeat (first | (with_reducible first | exact HB.out | apply below_alloc | apply pw_below_drewN | apply below_drew1) | exact HB.out)⟩
          · rw [if_neg c14] at H
            have c14b0 : (a4 == 0) = false := beq_eq_false_iff_ne.mpr c14
            have c14b1 : (a4 != 0) = true := bne_iff_ne.mpr c14
            by_cases c16 : a4 = a3
            · rw [if_pos c16] at H
              have c16b0 : (a4 == a3) = true := beq_iff_eq.mpr c16
              have c16b1 : (a4 != a3) = false := bne_eq_false_iff_eq.mpr c16
              clear c16
              simp only [Option.some.injEq, Prod.mk.injEq] at H
              obtain ⟨rfl, rfl⟩ := H
              go_wp2
              go_ret2
              exact ⟨by first | rfl | (simp [errW_none, errW_some] <;> rfl) | (simp [*, errW_none, errW_some] <;> rfl), by repeat (first | (with_reducible first | exact HB.out | apply below_alloc | apply pw_below_drewN | apply below_drew1) | exact HB.out)⟩
            · rw [if_neg c16] at H
              have c16b0 : (a4 == a3) = false := beq_eq_false_iff_ne.mpr c16
              have c16b1 : (a4 != a3) = true := bne_iff_ne.mpr c16
              simp only [Option.some.injEq, Prod.mk.injEq] at H
              obtain ⟨rfl, rfl⟩ := H
              go_wp2
              go_ret2
              exact ⟨by first | rfl | (simp [errW_none, errW_some] <;> rfl) | (simp [*, errW_none, errW_some] <;> rfl), by repeat (first | (with_reducible first | exact HB.out | apply below_alloc | apply pw_below_drewN | apply below_drew1) | exact HB.out)⟩

end Go.Proofs.Ytgofaifmbjallaa.Pa
