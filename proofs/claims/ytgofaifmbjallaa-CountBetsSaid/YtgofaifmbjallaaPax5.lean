/- Printed by our own driver (wip/drive.py) over the kit's print. -/
import Derived.Test.YtgofaifmbjallaaPax0
import Derived.Test.YtgofaifmbjallaaPax3
import Derived.Test.YtgofaifmbjallaaPax4
namespace Go.Proofs.Ytgofaifmbjallaa.Pa
open Go.RowKit Go.Proofs.YtgofaifmbjallaaW.PrintWords Go.Proofs.YtgofaifmbjallaaW.PrintLast Go.Proofs.YtgofaifmbjallaaW.PrintMore
open Go.Proofs.Ytgofaifmbjallaa.Cn
attribute [local go_sem] max2_int min2_int max_two min_two max_three min_three max_four min_four   -- for this text's walks alone
set_option linter.unusedVariables false
set_option linter.unusedSimpArgs false

/-! ### overburdenlaw07_CountBets: function 3 -/
def overburdenlaw07_CountBets.j0 : Nat → Int → Int → Int → Int → Int → Int → Int → Int → Bool → Option (Bool)
  | 0, _, _, _, _, _, _, _, _, _ => none
  | k + 1, x0, x1, x2, x3, x4, x11, x12, x13, x62 => if x62 = true then (if x13 = 2 then (if x11 = 0 then (if x12 = 0 then ((overburdenlaw07_known.f k).bind fun t157 => (some t157)) else (some false)) else (some false)) else (some false)) else ((overburdenref07_Bet.f k x0 x1 x2 x3 x4).bind fun bt158 => (if x13 = 0 then (if x11 = bt158.1 then (if x12 = bt158.2 then (if x4 = 0 then ((overburdenlaw07_known.f k).bind fun t160 => (some t160)) else (if x4 = x3 then ((overburdenlaw07_known.f k).bind fun t161 => (some t161)) else (if (wrap64 ((wrap64 (x4 * x11)) + (wrap64 ((wrap64 (x3 - x4)) * x12)))) ≤ (wrap64 (x3 * x0)) then ((overburdenlaw07_known.f k).bind fun t162 => (some t162)) else (some false)))) else (some false)) else (some false)) else (some false)))
def overburdenlaw07_CountBets.f (k : Nat) (a0 : Int) (a1 : Int) (a2 : Int) (a3 : Int) (a4 : Int) : Option (Bool) := (count_Bet.f a0 a1 a2 a3 a4).bind fun bt153 => ((overburdenref07_Parts.f a3).bind fun t156 => (if t156 = true then (if a1 < 0 then (overburdenlaw07_CountBets.j0 k a0 a1 a2 a3 a4 bt153.1 bt153.2.1 bt153.2.2 true) else (if a1 > 4000 then (overburdenlaw07_CountBets.j0 k a0 a1 a2 a3 a4 bt153.1 bt153.2.1 bt153.2.2 true) else (if a2 < 0 then (overburdenlaw07_CountBets.j0 k a0 a1 a2 a3 a4 bt153.1 bt153.2.1 bt153.2.2 true) else (if a2 > a1 then (overburdenlaw07_CountBets.j0 k a0 a1 a2 a3 a4 bt153.1 bt153.2.1 bt153.2.2 true) else (if a0 < 0 then (overburdenlaw07_CountBets.j0 k a0 a1 a2 a3 a4 bt153.1 bt153.2.1 bt153.2.2 true) else (if a0 > 1000000000000 then (overburdenlaw07_CountBets.j0 k a0 a1 a2 a3 a4 bt153.1 bt153.2.1 bt153.2.2 true) else (if a4 < 0 then (overburdenlaw07_CountBets.j0 k a0 a1 a2 a3 a4 bt153.1 bt153.2.1 bt153.2.2 true) else (overburdenlaw07_CountBets.j0 k a0 a1 a2 a3 a4 bt153.1 bt153.2.1 bt153.2.2 (decide (a4 > a3)))))))))) else (overburdenlaw07_CountBets.j0 k a0 a1 a2 a3 a4 bt153.1 bt153.2.1 bt153.2.2 true)))
theorem overburdenlaw07_CountBets.mono_l : ∀ k, (∀ y0 y1 y2 y3 y4 y5 y6 y7 y8, LeO (overburdenlaw07_CountBets.j0 k y0 y1 y2 y3 y4 y5 y6 y7 y8) (overburdenlaw07_CountBets.j0 (k + 1) y0 y1 y2 y3 y4 y5 y6 y7 y8))
  | 0 => fun _ _ _ _ _ _ _ _ _ r h => by simp [overburdenlaw07_CountBets.j0] at h
  | k + 1 => by
    have ih0 := overburdenlaw07_CountBets.mono_l k
    · intro y0 y1 y2 y3 y4 y5 y6 y7 y8
      unfold overburdenlaw07_CountBets.j0
      repeat' first
      | (with_reducible exact ih0 _ _ _ _ _ _ _ _ _)
      | (with_reducible exact overburdenlaw07_known.mono _)
      | (with_reducible exact overburdenref07_Bet.mono _ _ _ _ _ _)
      | (with_reducible exact LeO.refl _)
      | (with_reducible exact LeO.none _)
      | (with_reducible refine LeO.ite ?_ ?_)
      | (with_reducible refine LeO.bind ?_ (fun _ => ?_))
      | exact ih0 _ _ _ _ _ _ _ _ _
      | exact overburdenlaw07_known.mono _
      | exact overburdenref07_Bet.mono _ _ _ _ _ _
      | exact LeO.none _
      | refine LeO.ite ?_ ?_
      | refine LeO.bind ?_ (fun _ => ?_)
theorem overburdenlaw07_CountBets.mono : ∀ a0 a1 a2 a3 a4 k, LeO (overburdenlaw07_CountBets.f k a0 a1 a2 a3 a4) (overburdenlaw07_CountBets.f (k + 1) a0 a1 a2 a3 a4) := by
  intro a0 a1 a2 a3 a4 k
  have ih0 := overburdenlaw07_CountBets.mono_l k
  unfold overburdenlaw07_CountBets.f
  repeat' first
      | (with_reducible exact ih0 _ _ _ _ _ _ _ _ _)
      | (with_reducible exact overburdenlaw07_known.mono _)
      | (with_reducible exact overburdenref07_Bet.mono _ _ _ _ _ _)
      | (with_reducible exact LeO.refl _)
      | (with_reducible exact LeO.none _)
      | (with_reducible refine LeO.ite ?_ ?_)
      | (with_reducible refine LeO.bind ?_ (fun _ => ?_))
      | exact ih0 _ _ _ _ _ _ _ _ _
      | exact overburdenlaw07_known.mono _
      | exact overburdenref07_Bet.mono _ _ _ _ _ _
      | exact LeO.none _
      | refine LeO.ite ?_ ?_
      | refine LeO.bind ?_ (fun _ => ?_)
set_option maxHeartbeats 8000000 in
set_option maxRecDepth 100000 in
theorem overburdenlaw07_CountBets.calls (k : Nat) (a0 : Int) (a1 : Int) (a2 : Int) (a3 : Int) (a4 : Int) (r : Bool) (w : World) (h : overburdenlaw07_CountBets.f k a0 a1 a2 a3 a4 = some r) :
    Calls Try.prog 3 #[.int .i64 a0, .int .i64 a1, .int .i64 a2, .int .i64 a3, .int .i64 a4] w fun e w' => e = .returned (.bool r) ∧ Below w.heap.size w w' := by
  have HB := Aside0.mk (Below.refl w.heap.size w)
  have H : ((count_Bet.f a0 a1 a2 a3 a4).bind fun bt153 => ((overburdenref07_Parts.f a3).bind fun t156 => (if t156 = true then (if a1 < 0 then (overburdenlaw07_CountBets.j0 k a0 a1 a2 a3 a4 bt153.1 bt153.2.1 bt153.2.2 true) else (if a1 > 4000 then (overburdenlaw07_CountBets.j0 k a0 a1 a2 a3 a4 bt153.1 bt153.2.1 bt153.2.2 true) else (if a2 < 0 then (overburdenlaw07_CountBets.j0 k a0 a1 a2 a3 a4 bt153.1 bt153.2.1 bt153.2.2 true) else (if a2 > a1 then (overburdenlaw07_CountBets.j0 k a0 a1 a2 a3 a4 bt153.1 bt153.2.1 bt153.2.2 true) else (if a0 < 0 then (overburdenlaw07_CountBets.j0 k a0 a1 a2 a3 a4 bt153.1 bt153.2.1 bt153.2.2 true) else (if a0 > 1000000000000 then (overburdenlaw07_CountBets.j0 k a0 a1 a2 a3 a4 bt153.1 bt153.2.1 bt153.2.2 true) else (if a4 < 0 then (overburdenlaw07_CountBets.j0 k a0 a1 a2 a3 a4 bt153.1 bt153.2.1 bt153.2.2 true) else (overburdenlaw07_CountBets.j0 k a0 a1 a2 a3 a4 bt153.1 bt153.2.1 bt153.2.2 (decide (a4 > a3)))))))))) else (overburdenlaw07_CountBets.j0 k a0 a1 a2 a3 a4 bt153.1 bt153.2.1 bt153.2.2 true)))) = some r := h
  clear h
  replace H := Option.bind_eq_some_iff.mp H
  obtain ⟨⟨t153, t154, t155⟩, A60, H⟩ := H
  replace H : ((overburdenref07_Parts.f a3).bind fun t156 => (if t156 = true then (if a1 < 0 then (overburdenlaw07_CountBets.j0 k a0 a1 a2 a3 a4 t153 t154 t155 true) else (if a1 > 4000 then (overburdenlaw07_CountBets.j0 k a0 a1 a2 a3 a4 t153 t154 t155 true) else (if a2 < 0 then (overburdenlaw07_CountBets.j0 k a0 a1 a2 a3 a4 t153 t154 t155 true) else (if a2 > a1 then (overburdenlaw07_CountBets.j0 k a0 a1 a2 a3 a4 t153 t154 t155 true) else (if a0 < 0 then (overburdenlaw07_CountBets.j0 k a0 a1 a2 a3 a4 t153 t154 t155 true) else (if a0 > 1000000000000 then (overburdenlaw07_CountBets.j0 k a0 a1 a2 a3 a4 t153 t154 t155 true) else (if a4 < 0 then (overburdenlaw07_CountBets.j0 k a0 a1 a2 a3 a4 t153 t154 t155 true) else (overburdenlaw07_CountBets.j0 k a0 a1 a2 a3 a4 t153 t154 t155 (decide (a4 > a3)))))))))) else (overburdenlaw07_CountBets.j0 k a0 a1 a2 a3 a4 t153 t154 t155 true))) = some r := H
  have A6 := Aside0.mk A60
  clear A60
  have HC7 := Aside0.mk H
  clear H
  go_enter Try.func3, Try.ntmps3
  go_upto_region 2 with (first | ((with_reducible refine gate_callee (f := 15) rfl ?_); refine goesL_ (some 22) rfl rfl Try.func15 (by kernel_rfl) rfl #[.int .i64 a0, .int .i64 a1, .int .i64 a2, .int .i64 a3, .int .i64 a4] rfl (by (try simp only [List.map_toArray, List.map_cons, List.map_nil]); first | done | rfl | (simp only [List.length_drop, List.length_take]; rfl)) ?_; (with_reducible refine (count_Bet.calls a0 a1 a2 a3 a4 t153 t154 t155 _ A6.out).mono ?_); rintro e w8 ⟨rfl, hb⟩; refine ⟨_, rfl, ?_⟩; have n0_ := Aside0.mk (below_step (by repeat (first | (with_reducible first | exact HB.out | apply below_alloc | apply pw_below_drewN | apply below_drew1) | exact HB.out)) hb); clear HB; have HB := n0_; clear n0_; (try clear hb); (try clear hb2); (try clear hk); (try clear hi)))
  (try simp only [Act.put, List.setIfInBounds_toArray, List.set_cons_zero, List.set_cons_succ])
  go_cut [62] (fun v62 wc => ∃ (kq : Nat) (x62_6 : Bool), v62 = .bool x62_6 ∧ Aside0 (overburdenlaw07_CountBets.j0 kq a0 a1 a2 a3 a4 t153 t154 t155 x62_6 = some r) ∧ Aside0 (kq ≤ k) ∧ Aside0 (Below w.heap.size w wc))
  case first =>
    have H := HC7.out
    clear HC7
    replace H := Option.bind_eq_some_iff.mp H
    obtain ⟨t156, A90, H⟩ := H
    replace H : (if t156 = true then (if a1 < 0 then (overburdenlaw07_CountBets.j0 k a0 a1 a2 a3 a4 t153 t154 t155 true) else (if a1 > 4000 then (overburdenlaw07_CountBets.j0 k a0 a1 a2 a3 a4 t153 t154 t155 true) else (if a2 < 0 then (overburdenlaw07_CountBets.j0 k a0 a1 a2 a3 a4 t153 t154 t155 true) else (if a2 > a1 then (overburdenlaw07_CountBets.j0 k a0 a1 a2 a3 a4 t153 t154 t155 true) else (if a0 < 0 then (overburdenlaw07_CountBets.j0 k a0 a1 a2 a3 a4 t153 t154 t155 true) else (if a0 > 1000000000000 then (overburdenlaw07_CountBets.j0 k a0 a1 a2 a3 a4 t153 t154 t155 true) else (if a4 < 0 then (overburdenlaw07_CountBets.j0 k a0 a1 a2 a3 a4 t153 t154 t155 true) else (overburdenlaw07_CountBets.j0 k a0 a1 a2 a3 a4 t153 t154 t155 (decide (a4 > a3)))))))))) else (overburdenlaw07_CountBets.j0 k a0 a1 a2 a3 a4 t153 t154 t155 true)) = some r := H
    have A9 := Aside0.mk A90
    clear A90
    by_cases c10 : t156 = true
    · subst c10
      have H1 : (if a1 < 0 then (overburdenlaw07_CountBets.j0 k a0 a1 a2 a3 a4 t153 t154 t155 true) else (if a1 > 4000 then (overburdenlaw07_CountBets.j0 k a0 a1 a2 a3 a4 t153 t154 t155 true) else (if a2 < 0 then (overburdenlaw07_CountBets.j0 k a0 a1 a2 a3 a4 t153 t154 t155 true) else (if a2 > a1 then (overburdenlaw07_CountBets.j0 k a0 a1 a2 a3 a4 t153 t154 t155 true) else (if a0 < 0 then (overburdenlaw07_CountBets.j0 k a0 a1 a2 a3 a4 t153 t154 t155 true) else (if a0 > 1000000000000 then (overburdenlaw07_CountBets.j0 k a0 a1 a2 a3 a4 t153 t154 t155 true) else (if a4 < 0 then (overburdenlaw07_CountBets.j0 k a0 a1 a2 a3 a4 t153 t154 t155 true) else (overburdenlaw07_CountBets.j0 k a0 a1 a2 a3 a4 t153 t154 t155 (decide (a4 > a3)))))))))) = some r := by rw [if_pos rfl] at H; exact H
      clear H
      have H := H1
      clear H1
      by_cases c11 : a1 < 0
      · rw [if_pos c11] at H
        have c11b0 : decide (a1 < 0) = true := decide_eq_true c11
        clear c11
        (first | rw [c11b0] | (simp only [i64_w, i32_w]; rw [c11b0]) | skip)
        have H' := Aside0.mk H
        clear H
        go_wp2_with (first | ((with_reducible refine gate_callee (f := 16) rfl ?_); refine goesL_ (some 27) rfl rfl Try.func16 (by kernel_rfl) rfl #[.int .i64 a3] rfl (by (try simp only [List.map_toArray, List.map_cons, List.map_nil]); first | done | rfl | (simp only [List.length_drop, List.length_take]; rfl)) ?_; (with_reducible refine (overburdenref07_Parts.calls a3 true _ A9.out).mono ?_); rintro e w' ⟨rfl, ⟨nd, rfl⟩⟩; refine ⟨_, rfl, ?_⟩))
        go_meet
        case rel => exact ⟨_, (true), (by first | rfl | (simp; done) | (simp [*]; done)), H', ⟨by first | omega | exact Nat.le_refl _⟩, ⟨by repeat (first | (with_reducible first | exact HB.out | apply below_alloc | apply pw_below_drewN | apply below_drew1) | exact HB.out)⟩⟩
      · rw [if_neg c11] at H
        have c11b0 : decide (a1 < 0) = false := decide_eq_false c11
        clear c11
        (first | rw [c11b0] | (simp only [i64_w, i32_w]; rw [c11b0]) | skip)
        by_cases c12 : a1 > 4000
        · rw [if_pos c12] at H
          have c12b0 : decide (4000 < a1) = true := decide_eq_true c12
          clear c12
          have H' := Aside0.mk H
          clear H
          go_wp2_with (first | ((with_reducible refine gate_callee (f := 16) rfl ?_); refine goesL_ (some 27) rfl rfl Try.func16 (by kernel_rfl) rfl #[.int .i64 a3] rfl (by (try simp only [List.map_toArray, List.map_cons, List.map_nil]); first | done | rfl | (simp only [List.length_drop, List.length_take]; rfl)) ?_; (with_reducible refine (overburdenref07_Parts.calls a3 true _ A9.out).mono ?_); rintro e w' ⟨rfl, ⟨nd, rfl⟩⟩; refine ⟨_, rfl, ?_⟩))
          go_meet
          case rel => exact ⟨_, (true), (by first | rfl | (simp; done) | (simp [*]; done)), H', ⟨by first | omega | exact Nat.le_refl _⟩, ⟨by repeat (first | (with_reducible first | exact HB.out | apply below_alloc | apply pw_below_drewN | apply below_drew1) | exact HB.out)⟩⟩
        · rw [if_neg c12] at H
          have c12b0 : decide (4000 < a1) = false := decide_eq_false c12
          clear c12
          by_cases c13 : a2 < 0
          · rw [if_pos c13] at H
            have c13b0 : decide (a2 < 0) = true := decide_eq_true c13
            clear c13
            have H' := Aside0.mk H
            clear H
            go_wp2_with (first | ((with_reducible refine gate_callee (f := 16) rfl ?_); refine goesL_ (some 27) rfl rfl Try.func16 (by kernel_rfl) rfl #[.int .i64 a3] rfl (by (try simp only [List.map_toArray, List.map_cons, List.map_nil]); first | done | rfl | (simp only [List.length_drop, List.length_take]; rfl)) ?_; (with_reducible refine (overburdenref07_Parts.calls a3 true _ A9.out).mono ?_); rintro e w' ⟨rfl, ⟨nd, rfl⟩⟩; refine ⟨_, rfl, ?_⟩))
            go_meet
            case rel => exact ⟨_, (true), (by first | rfl | (simp; done) | (simp [*]; done)), H', ⟨by first | omega | exact Nat.le_refl _⟩, ⟨by repeat (first | (with_reducible first | exact HB.out | apply below_alloc | apply pw_below_drewN | apply below_drew1) | exact HB.out)⟩⟩
          · rw [if_neg c13] at H
            have c13b0 : decide (a2 < 0) = false := decide_eq_false c13
            clear c13
            by_cases c14 : a2 > a1
            · rw [if_pos c14] at H
              have c14b0 : decide (a1 < a2) = true := decide_eq_true c14
              clear c14
              have H' := Aside0.mk H
              clear H
              go_wp2_with (first | ((with_reducible refine gate_callee (f := 16) rfl ?_); refine goesL_ (some 27) rfl rfl Try.func16 (by kernel_rfl) rfl #[.int .i64 a3] rfl (by (try simp only [List.map_toArray, List.map_cons, List.map_nil]); first | done | rfl | (simp only [List.length_drop, List.length_take]; rfl)) ?_; (with_reducible refine (overburdenref07_Parts.calls a3 true _ A9.out).mono ?_); rintro e w' ⟨rfl, ⟨nd, rfl⟩⟩; refine ⟨_, rfl, ?_⟩))
              go_meet
              case rel => exact ⟨_, (true), (by first | rfl | (simp; done) | (simp [*]; done)), H', ⟨by first | omega | exact Nat.le_refl _⟩, ⟨by repeat (first | (with_reducible first | exact HB.out | apply below_alloc | apply pw_below_drewN | apply below_drew1) | exact HB.out)⟩⟩
            · rw [if_neg c14] at H
              have c14b0 : decide (a1 < a2) = false := decide_eq_false c14
              clear c14
              by_cases c15 : a0 < 0
              · rw [if_pos c15] at H
                have c15b0 : decide (a0 < 0) = true := decide_eq_true c15
                clear c15
                have H' := Aside0.mk H
                clear H
                go_wp2_with (first | ((with_reducible refine gate_callee (f := 16) rfl ?_); refine goesL_ (some 27) rfl rfl Try.func16 (by kernel_rfl) rfl #[.int .i64 a3] rfl (by (try simp only [List.map_toArray, List.map_cons, List.map_nil]); first | done | rfl | (simp only [List.length_drop, List.length_take]; rfl)) ?_; (with_reducible refine (overburdenref07_Parts.calls a3 true _ A9.out).mono ?_); rintro e w' ⟨rfl, ⟨nd, rfl⟩⟩; refine ⟨_, rfl, ?_⟩))
                go_meet
                case rel => exact ⟨_, (true), (by first | rfl | (simp; done) | (simp [*]; done)), H', ⟨by first | omega | exact Nat.le_refl _⟩, ⟨by repeat (first | (with_reducible first | exact HB.out | apply below_alloc | apply pw_below_drewN | apply below_drew1) | exact HB.out)⟩⟩
              · rw [if_neg c15] at H
                have c15b0 : decide (a0 < 0) = false := decide_eq_false c15
                clear c15
                by_cases c16 : a0 > 1000000000000
                · rw [if_pos c16] at H
                  have c16b0 : decide (1000000000000 < a0) = true := decide_eq_true c16
                  clear c16
                  have H' := Aside0.mk H
                  clear H
                  go_wp2_with (first | ((with_reducible refine gate_callee (f := 16) rfl ?_); refine goesL_ (some 27) rfl rfl Try.func16 (by kernel_rfl) rfl #[.int .i64 a3] rfl (by (try simp only [List.map_toArray, List.map_cons, List.map_nil]); first | done | rfl | (simp only [List.length_drop, List.length_take]; rfl)) ?_; (with_reducible refine (overburdenref07_Parts.calls a3 true _ A9.out).mono ?_); rintro e w' ⟨rfl, ⟨nd, rfl⟩⟩; refine ⟨_, rfl, ?_⟩))
                  go_meet
                  case rel => exact ⟨_, (true), (by first | rfl | (simp; done) | (simp [*]; done)), H', ⟨by first | omega | exact Nat.le_refl _⟩, ⟨by repeat (first | (with_reducible first | exact HB.out | apply below_alloc | apply pw_below_drewN | apply below_drew1) | exact HB.out)⟩⟩
                · rw [if_neg c16] at H
                  have c16b0 : decide (1000000000000 < a0) = false := decide_eq_false c16
                  clear c16
                  by_cases c17 : a4 < 0
                  · rw [if_pos c17] at H
                    have c17b0 : decide (a4 < 0) = true := decide_eq_true c17
                    clear c17
                    have H' := Aside0.mk H
                    clear H
                    go_wp2_with (first | ((with_reducible refine gate_callee (f := 16) rfl ?_); refine goesL_ (some 27) rfl rfl Try.func16 (by kernel_rfl) rfl #[.int .i64 a3] rfl (by (try simp only [List.map_toArray, List.map_cons, List.map_nil]); first | done | rfl | (simp only [List.length_drop, List.length_take]; rfl)) ?_; (with_reducible refine (overburdenref07_Parts.calls a3 true _ A9.out).mono ?_); rintro e w' ⟨rfl, ⟨nd, rfl⟩⟩; refine ⟨_, rfl, ?_⟩))
                    go_meet
                    case rel => exact ⟨_, (true), (by first | rfl | (simp; done) | (simp [*]; done)), H', ⟨by first | omega | exact Nat.le_refl _⟩, ⟨by repeat (first | (with_reducible first | exact HB.out | apply below_alloc | apply pw_below_drewN | apply below_drew1) | exact HB.out)⟩⟩
                  · rw [if_neg c17] at H
                    have c17b0 : decide (a4 < 0) = false := decide_eq_false c17
                    clear c17
                    have H' := Aside0.mk H
                    clear H
                    go_wp2_with (first | ((with_reducible refine gate_callee (f := 16) rfl ?_); refine goesL_ (some 27) rfl rfl Try.func16 (by kernel_rfl) rfl #[.int .i64 a3] rfl (by (try simp only [List.map_toArray, List.map_cons, List.map_nil]); first | done | rfl | (simp only [List.length_drop, List.length_take]; rfl)) ?_; (with_reducible refine (overburdenref07_Parts.calls a3 true _ A9.out).mono ?_); rintro e w' ⟨rfl, ⟨nd, rfl⟩⟩; refine ⟨_, rfl, ?_⟩))
                    go_meet
                    case rel => exact ⟨_, (decide (a4 > a3)), (by first | rfl | (simp; done) | (simp [*]; done)), H', ⟨by first | omega | exact Nat.le_refl _⟩, ⟨by repeat (first | (with_reducible first | exact HB.out | apply below_alloc | apply pw_below_drewN | apply below_drew1) | exact HB.out)⟩⟩
    · replace c10 := Bool.eq_false_iff.mpr c10
      subst c10
      have H1 : (overburdenlaw07_CountBets.j0 k a0 a1 a2 a3 a4 t153 t154 t155 true) = some r := by rw [if_neg (show ¬ (false = true) by decide)] at H; exact H
      clear H
      have H := H1
      clear H1
      have H' := Aside0.mk H
      clear H
      go_wp2_with (first | ((with_reducible refine gate_callee (f := 16) rfl ?_); refine goesL_ (some 27) rfl rfl Try.func16 (by kernel_rfl) rfl #[.int .i64 a3] rfl (by (try simp only [List.map_toArray, List.map_cons, List.map_nil]); first | done | rfl | (simp only [List.length_drop, List.length_take]; rfl)) ?_; (with_reducible refine (overburdenref07_Parts.calls a3 false _ A9.out).mono ?_); rintro e w' ⟨rfl, ⟨nd, rfl⟩⟩; refine ⟨_, rfl, ?_⟩))
      go_meet
      case rel => exact ⟨_, (true), (by first | rfl | (simp; done) | (simp [*]; done)), H', ⟨by first | omega | exact Nat.le_refl _⟩, ⟨by repeat (first | (with_reducible first | exact HB.out | apply below_alloc | apply pw_below_drewN | apply below_drew1) | exact HB.out)⟩⟩
  case rest =>
    clear HC7
    try clear c1
    try clear p2
    try clear c3
    try clear c10
    try clear c11
    try clear c11b0
    try clear c12
    try clear c12b0
    try clear c13
    try clear c13b0
    try clear c14
    try clear c14b0
    try clear c15
    try clear c15b0
    try clear c16
    try clear c16b0
    try clear c17
    try clear c17b0
    obtain ⟨kq, x62_6, rfl, HA, HJ6, HB⟩ := hcut
    cases kq with
    | zero => exact absurd HA.out (by simp [overburdenlaw07_CountBets.j0])
    | succ kj6 =>
      have H := HA.out
      clear HA
      simp only [overburdenlaw07_CountBets.j0] at H
      by_cases c18 : x62_6 = true
      · subst c18
        have H1 : (if t155 = 2 then (if t153 = 0 then (if t154 = 0 then ((overburdenlaw07_known.f kj6).bind fun t157 => (some t157)) else (some false)) else (some false)) else (some false)) = some r := by rw [if_pos rfl] at H; exact H
        clear H
        have H := H1
        clear H1
        by_cases c19 : t155 = 2
        · rw [if_pos c19] at H
          have c19b0 : (t155 == 2) = true := beq_iff_eq.mpr c19
          have c19b1 : (t155 != 2) = false := bne_eq_false_iff_eq.mpr c19
          clear c19
          by_cases c20 : t153 = 0
          · rw [if_pos c20] at H
            have c20b0 : (t153 == 0) = true := beq_iff_eq.mpr c20
            have c20b1 : (t153 != 0) = false := bne_eq_false_iff_eq.mpr c20
            clear c20
            by_cases c21 : t154 = 0
            · rw [if_pos c21] at H
              have c21b0 : (t154 == 0) = true := beq_iff_eq.mpr c21
              have c21b1 : (t154 != 0) = false := bne_eq_false_iff_eq.mpr c21
              clear c21
              replace H := Option.bind_eq_some_iff.mp H
              obtain ⟨t157, A220, H⟩ := H
              replace H : (some t157) = some r := H
              have A22 := Aside0.mk A220
              clear A220
              obtain rfl := Option.some.inj H
              go_wp2_with (first | (go_at_call 17; (with_reducible refine (overburdenlaw07_known.calls kj6  t157 _ A22.out).mono ?_); rintro e w23 ⟨rfl, hb⟩; have n0_ := Aside0.mk (below_step (by repeat (first | (with_reducible first | exact HB.out | apply below_alloc | apply pw_below_drewN | apply below_drew1) | exact HB.out)) hb); clear HB; have HB := n0_; clear n0_; (try clear hb); (try clear hb2); (try clear hk); (try clear hi)))
              go_ret
              exact ⟨by first | rfl | (simp [errW_none, errW_some] <;> rfl) | (simp [*, errW_none, errW_some] <;> rfl), by repeat (first | (with_reducible first | exact HB.out | apply below_alloc | apply pw_below_drewN | apply below_drew1) | exact HB.out)⟩
            · rw [if_neg c21] at H
              have c21b0 : (t154 == 0) = false := beq_eq_false_iff_ne.mpr c21
              have c21b1 : (t154 != 0) = true := bne_iff_ne.mpr c21
              obtain rfl := Option.some.inj H
              go_wp2
              go_ret
              exact ⟨by first | rfl | (simp [errW_none, errW_some] <;> rfl) | (simp [*, errW_none, errW_some] <;> rfl), by repeat (first | (with_reducible first | exact HB.out | apply below_alloc | apply pw_below_drewN | apply below_drew1) | exact HB.out)⟩
          · rw [if_neg c20] at H
            have c20b0 : (t153 == 0) = false := beq_eq_false_iff_ne.mpr c20
            have c20b1 : (t153 != 0) = true := bne_iff_ne.mpr c20
            obtain rfl := Option.some.inj H
            go_wp2
            go_ret
            exact ⟨by first | rfl | (simp [errW_none, errW_some] <;> rfl) | (simp [*, errW_none, errW_some] <;> rfl), by repeat (first | (with_reducible first | exact HB.out | apply below_alloc | apply pw_below_drewN | apply below_drew1) | exact HB.out)⟩
        · rw [if_neg c19] at H
          have c19b0 : (t155 == 2) = false := beq_eq_false_iff_ne.mpr c19
          have c19b1 : (t155 != 2) = true := bne_iff_ne.mpr c19
          obtain rfl := Option.some.inj H
          go_wp2
          go_ret
          exact ⟨by first | rfl | (simp [errW_none, errW_some] <;> rfl) | (simp [*, errW_none, errW_some] <;> rfl), by repeat (first | (with_reducible first | exact HB.out | apply below_alloc | apply pw_below_drewN | apply below_drew1) | exact HB.out)⟩
      · replace c18 := Bool.eq_false_iff.mpr c18
        subst c18
        have H1 : ((overburdenref07_Bet.f kj6 a0 a1 a2 a3 a4).bind fun bt158 => (if t155 = 0 then (if t153 = bt158.1 then (if t154 = bt158.2 then (if a4 = 0 then ((overburdenlaw07_known.f kj6).bind fun t160 => (some t160)) else (if a4 = a3 then ((overburdenlaw07_known.f kj6).bind fun t161 => (some t161)) else (if (wrap64 ((wrap64 (a4 * t153)) + (wrap64 ((wrap64 (a3 - a4)) * t154)))) ≤ (wrap64 (a3 * a0)) then ((overburdenlaw07_known.f kj6).bind fun t162 => (some t162)) else (some false)))) else (some false)) else (some false)) else (some false))) = some r := by rw [if_neg (show ¬ (false = true) by decide)] at H; exact H
        clear H
        have H := H1
        clear H1
        replace H := Option.bind_eq_some_iff.mp H
        obtain ⟨⟨t158, t159⟩, A240, H⟩ := H
        replace H : (if t155 = 0 then (if t153 = t158 then (if t154 = t159 then (if a4 = 0 then ((overburdenlaw07_known.f kj6).bind fun t160 => (some t160)) else (if a4 = a3 then ((overburdenlaw07_known.f kj6).bind fun t161 => (some t161)) else (if (wrap64 ((wrap64 (a4 * t153)) + (wrap64 ((wrap64 (a3 - a4)) * t154)))) ≤ (wrap64 (a3 * a0)) then ((overburdenlaw07_known.f kj6).bind fun t162 => (some t162)) else (some false)))) else (some false)) else (some false)) else (some false)) = some r := H
        have A24 := Aside0.mk A240
        clear A240
        by_cases c25 : t155 = 0
        · rw [if_pos c25] at H
          have c25b0 : (t155 == 0) = true := beq_iff_eq.mpr c25
          have c25b1 : (t155 != 0) = false := bne_eq_false_iff_eq.mpr c25
          clear c25
          by_cases c26 : t153 = t158
          · rw [if_pos c26] at H
            have c26b0 : (t153 == t158) = true := beq_iff_eq.mpr c26
            have c26b1 : (t153 != t158) = false := bne_eq_false_iff_eq.mpr c26
            clear c26
            by_cases c27 : t154 = t159
            · rw [if_pos c27] at H
              have c27b0 : (t154 == t159) = true := beq_iff_eq.mpr c27
              have c27b1 : (t154 != t159) = false := bne_eq_false_iff_eq.mpr c27
              clear c27
              by_cases c28 : a4 = 0
              · rw [if_pos c28] at H
                have c28b0 : (a4 == 0) = true := beq_iff_eq.mpr c28
                have c28b1 : (a4 != 0) = false := bne_eq_false_iff_eq.mpr c28
                clear c28
                replace H := Option.bind_eq_some_iff.mp H
                obtain ⟨t160, A290, H⟩ := H
                replace H : (some t160) = some r := H
                have A29 := Aside0.mk A290
                clear A290
                obtain rfl := Option.some.inj H
                go_wp2_with (first | ((with_reducible refine gate_callee (f := 18) rfl ?_); refine goesL_ (some 82) rfl rfl Try.func18 (by kernel_rfl) rfl #[.int .i64 a0, .int .i64 a1, .int .i64 a2, .int .i64 a3, .int .i64 a4] rfl (by (try simp only [List.map_toArray, List.map_cons, List.map_nil]); first | done | rfl | (simp only [List.length_drop, List.length_take]; rfl)) ?_; (with_reducible refine (overburdenref07_Bet.calls kj6 a0 a1 a2 a3 a4 t158 t159 _ A24.out).mono ?_); rintro e w30 ⟨rfl, hb⟩; refine ⟨_, rfl, ?_⟩; have n0_ := Aside0.mk (below_step (by repeat (first | (with_reducible first | exact HB.out | apply below_alloc | apply pw_below_drewN | apply below_drew1) | exact HB.out)) hb); clear HB; have HB := n0_; clear n0_; (try clear hb); (try clear hb2); (try clear hk); (try clear hi)) | (go_at_call 17; (with_reducible refine (overburdenlaw07_known.calls kj6  t160 _ A29.out).mono ?_); rintro e w31 ⟨rfl, hb⟩; have n0_ := Aside0.mk (below_step (by repeat (first | (with_reducible first | exact HB.out | apply below_alloc | apply pw_below_drewN | apply below_drew1) | exact HB.out)) hb); clear HB; have HB := n0_; clear n0_; (try clear hb); (try clear hb2); (try clear hk); (try clear hi)))
                go_ret
                exact ⟨by first | rfl | (simp [errW_none, errW_some] <;> rfl) | (simp [*, errW_none, errW_some] <;> rfl), by repeat (first | (with_reducible first | exact HB.out | apply below_alloc | apply pw_below_drewN | apply below_drew1) | exact HB.out)⟩
              · rw [if_neg c28] at H
                have c28b0 : (a4 == 0) = false := beq_eq_false_iff_ne.mpr c28
                have c28b1 : (a4 != 0) = true := bne_iff_ne.mpr c28
                by_cases c32 : a4 = a3
                · rw [if_pos c32] at H
                  have c32b0 : (a4 == a3) = true := beq_iff_eq.mpr c32
                  have c32b1 : (a4 != a3) = false := bne_eq_false_iff_eq.mpr c32
                  clear c32
                  replace H := Option.bind_eq_some_iff.mp H
                  obtain ⟨t161, A330, H⟩ := H
                  replace H : (some t161) = some r := H
                  have A33 := Aside0.mk A330
                  clear A330
                  obtain rfl := Option.some.inj H
                  go_wp2_with (first | ((with_reducible refine gate_callee (f := 18) rfl ?_); refine goesL_ (some 82) rfl rfl Try.func18 (by kernel_rfl) rfl #[.int .i64 a0, .int .i64 a1, .int .i64 a2, .int .i64 a3, .int .i64 a4] rfl (by (try simp only [List.map_toArray, List.map_cons, List.map_nil]); first | done | rfl | (simp only [List.length_drop, List.length_take]; rfl)) ?_; (with_reducible refine (overburdenref07_Bet.calls kj6 a0 a1 a2 a3 a4 t158 t159 _ A24.out).mono ?_); rintro e w34 ⟨rfl, hb⟩; refine ⟨_, rfl, ?_⟩; have n0_ := Aside0.mk (below_step (by repeat (first | (with_reducible first | exact HB.out | apply below_alloc | apply pw_below_drewN | apply below_drew1) | exact HB.out)) hb); clear HB; have HB := n0_; clear n0_; (try clear hb); (try clear hb2); (try clear hk); (try clear hi)) | (go_at_call 17; (with_reducible refine (overburdenlaw07_known.calls kj6  t161 _ A33.out).mono ?_); rintro e w35 ⟨rfl, hb⟩; have n0_ := Aside0.mk (below_step (by repeat (first | (with_reducible first | exact HB.out | apply below_alloc | apply pw_below_drewN | apply below_drew1) | exact HB.out)) hb); clear HB; have HB := n0_; clear n0_; (try clear hb); (try clear hb2); (try clear hk); (try clear hi)))
                  go_ret
                  exact ⟨by first | rfl | (simp [errW_none, errW_some] <;> rfl) | (simp [*, errW_none, errW_some] <;> rfl), by repeat (first | (with_reducible first | exact HB.out | apply below_alloc | apply pw_below_drewN | apply below_drew1) | exact HB.out)⟩
                · rw [if_neg c32] at H
                  have c32b0 : (a4 == a3) = false := beq_eq_false_iff_ne.mpr c32
                  have c32b1 : (a4 != a3) = true := bne_iff_ne.mpr c32
                  by_cases c36 : (wrap64 ((wrap64 (a4 * t153)) + (wrap64 ((wrap64 (a3 - a4)) * t154)))) ≤ (wrap64 (a3 * a0))
                  · rw [if_pos c36] at H
                    have c36b0 : decide ((wrap64 ((wrap64 (a4 * t153)) + (wrap64 ((wrap64 (a3 - a4)) * t154)))) ≤ (wrap64 (a3 * a0))) = true := decide_eq_true c36
                    clear c36
                    replace H := Option.bind_eq_some_iff.mp H
                    obtain ⟨t162, A370, H⟩ := H
                    replace H : (some t162) = some r := H
                    have A37 := Aside0.mk A370
                    clear A370
                    obtain rfl := Option.some.inj H
                    go_wp2_with (first | ((with_reducible refine gate_callee (f := 18) rfl ?_); refine goesL_ (some 82) rfl rfl Try.func18 (by kernel_rfl) rfl #[.int .i64 a0, .int .i64 a1, .int .i64 a2, .int .i64 a3, .int .i64 a4] rfl (by (try simp only [List.map_toArray, List.map_cons, List.map_nil]); first | done | rfl | (simp only [List.length_drop, List.length_take]; rfl)) ?_; (with_reducible refine (overburdenref07_Bet.calls kj6 a0 a1 a2 a3 a4 t158 t159 _ A24.out).mono ?_); rintro e w38 ⟨rfl, hb⟩; refine ⟨_, rfl, ?_⟩; have n0_ := Aside0.mk (below_step (by repeat (first | (with_reducible first | exact HB.out | apply below_alloc | apply pw_below_drewN | apply below_drew1) | exact HB.out)) hb); clear HB; have HB := n0_; clear n0_; (try clear hb); (try clear hb2); (try clear hk); (try clear hi)) | (go_at_call 17; (with_reducible refine (overburdenlaw07_known.calls kj6  t162 _ A37.out).mono ?_); rintro e w39 ⟨rfl, hb⟩; have n0_ := Aside0.mk (below_step (by repeat (first | (with_reducible first | exact HB.out | apply below_alloc | apply pw_below_drewN | apply below_drew1) | exact HB.out)) hb); clear HB; have HB := n0_; clear n0_; (try clear hb); (try clear hb2); (try clear hk); (try clear hi)))
                    go_ret
                    exact ⟨by first | rfl | (simp [errW_none, errW_some] <;> rfl) | (simp [*, errW_none, errW_some] <;> rfl), by repeat (first | (with_reducible first | exact HB.out | apply below_alloc | apply pw_below_drewN | apply below_drew1) | exact HB.out)⟩
                  · rw [if_neg c36] at H
                    have c36b0 : decide ((wrap64 ((wrap64 (a4 * t153)) + (wrap64 ((wrap64 (a3 - a4)) * t154)))) ≤ (wrap64 (a3 * a0))) = false := decide_eq_false c36
                    clear c36
                    obtain rfl := Option.some.inj H
                    go_wp2_with (first | ((with_reducible refine gate_callee (f := 18) rfl ?_); refine goesL_ (some 82) rfl rfl Try.func18 (by kernel_rfl) rfl #[.int .i64 a0, .int .i64 a1, .int .i64 a2, .int .i64 a3, .int .i64 a4] rfl (by (try simp only [List.map_toArray, List.map_cons, List.map_nil]); first | done | rfl | (simp only [List.length_drop, List.length_take]; rfl)) ?_; (with_reducible refine (overburdenref07_Bet.calls kj6 a0 a1 a2 a3 a4 t158 t159 _ A24.out).mono ?_); rintro e w40 ⟨rfl, hb⟩; refine ⟨_, rfl, ?_⟩; have n0_ := Aside0.mk (below_step (by repeat (first | (with_reducible first | exact HB.out | apply below_alloc | apply pw_below_drewN | apply below_drew1) | exact HB.out)) hb); clear HB; have HB := n0_; clear n0_; (try clear hb); (try clear hb2); (try clear hk); (try clear hi)))
                    go_ret
                    exact ⟨by first | rfl | (simp [errW_none, errW_some] <;> rfl) | (simp [*, errW_none, errW_some] <;> rfl), by repeat (first | (with_reducible first | exact HB.out | apply below_alloc | apply pw_below_drewN | apply below_drew1) | exact HB.out)⟩
            · rw [if_neg c27] at H
              have c27b0 : (t154 == t159) = false := beq_eq_false_iff_ne.mpr c27
              have c27b1 : (t154 != t159) = true := bne_iff_ne.mpr c27
              obtain rfl := Option.some.inj H
              go_wp2_with (first | ((with_reducible refine gate_callee (f := 18) rfl ?_); refine goesL_ (some 82) rfl rfl Try.func18 (by kernel_rfl) rfl #[.int .i64 a0, .int .i64 a1, .int .i64 a2, .int .i64 a3, .int .i64 a4] rfl (by (try simp only [List.map_toArray, List.map_cons, List.map_nil]); first | done | rfl | (simp only [List.length_drop, List.length_take]; rfl)) ?_; (with_reducible refine (overburdenref07_Bet.calls kj6 a0 a1 a2 a3 a4 t158 t159 _ A24.out).mono ?_); rintro e w41 ⟨rfl, hb⟩; refine ⟨_, rfl, ?_⟩; have n0_ := Aside0.mk (below_step (by repeat (first | (with_reducible first | exact HB.out | apply below_alloc | apply pw_below_drewN | apply below_drew1) | exact HB.out)) hb); clear HB; have HB := n0_; clear n0_; (try clear hb); (try clear hb2); (try clear hk); (try clear hi)))
              go_ret
              exact ⟨by first | rfl | (simp [errW_none, errW_some] <;> rfl) | (simp [*, errW_none, errW_some] <;> rfl), by repeat (first | (with_reducible first | exact HB.out | apply below_alloc | apply pw_below_drewN | apply below_drew1) | exact HB.out)⟩
          · rw [if_neg c26] at H
            have c26b0 : (t153 == t158) = false := beq_eq_false_iff_ne.mpr c26
            have c26b1 : (t153 != t158) = true := bne_iff_ne.mpr c26
            obtain rfl := Option.some.inj H
            go_wp2_with (first | ((with_reducible refine gate_callee (f := 18) rfl ?_); refine goesL_ (some 82) rfl rfl Try.func18 (by kernel_rfl) rfl #[.int .i64 a0, .int .i64 a1, .int .i64 a2, .int .i64 a3, .int .i64 a4] rfl (by (try simp only [List.map_toArray, List.map_cons, List.map_nil]); first | done | rfl | (simp only [List.length_drop, List.length_take]; rfl)) ?_; (with_reducible refine (overburdenref07_Bet.calls kj6 a0 a1 a2 a3 a4 t158 t159 _ A24.out).mono ?_); rintro e w42 ⟨rfl, hb⟩; refine ⟨_, rfl, ?_⟩; have n0_ := Aside0.mk (below_step (by repeat (first | (with_reducible first | exact HB.out | apply below_alloc | apply pw_below_drewN | apply below_drew1) | exact HB.out)) hb); clear HB; have HB := n0_; clear n0_; (try clear hb); (try clear hb2); (try clear hk); (try clear hi)))
            go_ret
            exact ⟨by first | rfl | (simp [errW_none, errW_some] <;> rfl) | (simp [*, errW_none, errW_some] <;> rfl), by repeat (first | (with_reducible first | exact HB.out | apply below_alloc | apply pw_below_drewN | apply below_drew1) | exact HB.out)⟩
        · rw [if_neg c25] at H
          have c25b0 : (t155 == 0) = false := beq_eq_false_iff_ne.mpr c25
          have c25b1 : (t155 != 0) = true := bne_iff_ne.mpr c25
          obtain rfl := Option.some.inj H
          go_wp2_with (first | ((with_reducible refine gate_callee (f := 18) rfl ?_); refine goesL_ (some 82) rfl rfl Try.func18 (by kernel_rfl) rfl #[.int .i64 a0, .int .i64 a1, .int .i64 a2, .int .i64 a3, .int .i64 a4] rfl (by (try simp only [List.map_toArray, List.map_cons, List.map_nil]); first | done | rfl | (simp only [List.length_drop, List.length_take]; rfl)) ?_; (with_reducible refine (overburdenref07_Bet.calls kj6 a0 a1 a2 a3 a4 t158 t159 _ A24.out).mono ?_); rintro e w43 ⟨rfl, hb⟩; refine ⟨_, rfl, ?_⟩; have n0_ := Aside0.mk (below_step (by repeat (first | (with_reducible first | exact HB.out | apply below_alloc | apply pw_below_drewN | apply below_drew1) | exact HB.out)) hb); clear HB; have HB := n0_; clear n0_; (try clear hb); (try clear hb2); (try clear hk); (try clear hi)))
          go_ret
          exact ⟨by first | rfl | (simp [errW_none, errW_some] <;> rfl) | (simp [*, errW_none, errW_some] <;> rfl), by repeat (first | (with_reducible first | exact HB.out | apply below_alloc | apply pw_below_drewN | apply below_drew1) | exact HB.out)⟩

/-- THE ONE PURE STATEMENT of overburdenlaw07_CountBets: yours. -/
def overburdenlaw07_CountBets.Pure : Prop := ∀ (a0 : Int) (a1 : Int) (a2 : Int) (a3 : Int) (a4 : Int), (Lit.int .i64 a0).wf = true → (Lit.int .i64 a1).wf = true → (Lit.int .i64 a2).wf = true → (Lit.int .i64 a3).wf = true → (Lit.int .i64 a4).wf = true → ∃ k, overburdenlaw07_CountBets.f k a0 a1 a2 a3 a4 = some true
theorem overburdenlaw07_CountBets.walk (P : overburdenlaw07_CountBets.Pure) (a0 : Int) (a1 : Int) (a2 : Int) (a3 : Int) (a4 : Int) (w : World) (w0 : (Lit.int .i64 a0).wf = true) (w1 : (Lit.int .i64 a1).wf = true) (w2 : (Lit.int .i64 a2).wf = true) (w3 : (Lit.int .i64 a3).wf = true) (w4 : (Lit.int .i64 a4).wf = true) :
    Calls Try.prog 3 #[.int .i64 a0, .int .i64 a1, .int .i64 a2, .int .i64 a3, .int .i64 a4] w fun e w' => e = .returned (.bool true) ∧ Below w.heap.size w w' := by
  obtain ⟨k, h⟩ := P a0 a1 a2 a3 a4 w0 w1 w2 w3 w4
  refine (overburdenlaw07_CountBets.calls k a0 a1 a2 a3 a4 true w h).mono ?_
  rintro e w' ⟨rfl, hd⟩
  exact ⟨rfl, hd⟩

end Go.Proofs.Ytgofaifmbjallaa.Pa
