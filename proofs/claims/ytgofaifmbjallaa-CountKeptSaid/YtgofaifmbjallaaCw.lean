import Derived.Test.YtgofaifmbjallaaC3
namespace Go.Proofs.Ytgofaifmbjallaa.Cn
set_option linter.unusedVariables false
open Go.RowKit Go.Proofs.YtgofaifmbjallaaW.PrintWords Go.Proofs.YtgofaifmbjallaaW.PrintLast Go.Proofs.YtgofaifmbjallaaW.PrintMore

def allRefV (slots D : Int) : Int × Bool := if 12 < slots then (0, false) else if (wholeL D slots.toNat 1).2 = 0 then ((wholeL D slots.toNat 1).1, true) else (0, false)
def overburdenref07_All.f (a0 a1 : Int) : Option (Int × Bool) := if 2 ≤ a1 ∧ a1 ≤ 1000 ∧ a0 ≤ 9223372036854775807 then some (allRefV a0 a1) else none

set_option maxHeartbeats 1000000 in
theorem overburdenref07_All.calls (a0 : Int) (a1 : Int) (r1 : Int) (r2 : Bool) (w : World) (h : overburdenref07_All.f a0 a1 = some (r1, r2)) :
    Calls Try.prog 26 #[.int .i64 a0, .int .i64 a1] w fun e w' => e = .returned (.tuple #[.int .i64 r1, .bool r2]) ∧ Below w.heap.size w w' := by
  unfold overburdenref07_All.f at h
  split at h
  · rename_i hd
    obtain ⟨g1, g2, g3⟩ := hd
    simp only [Option.some.injEq] at h
    obtain ⟨s, hs⟩ : ∃ s : Nat, a0.toNat = s := ⟨_, rfl⟩
    rw [allRefV, hs] at h
    obtain ⟨R, hR⟩ : ∃ R, wholeL a1 s 1 = R := ⟨_, rfl⟩
    rw [hR] at h
    have H0 := Lib.hid (show wholeL a1 (s - 0) 1 = R from hR)
    clear hR
    have HR0 := Lib.hid h
    clear h
    go_enter Try.func26, Try.ntmps26
    go_wp2_with fail
    go_loop [6, 7] (fun v6 i => ∃ (j : Nat) (n : Int), v6 = .int .i64 n ∧ i = .int .i64 j ∧ (j : Int) ≤ 12 ∧ (j ≤ s) ∧ 1 ≤ n ∧ n ≤ 1152921504606846976 ∧ Hid (wholeL a1 (s - j) n = R)) (fun _ i => s - (intOf i).toNat)
    case atStart => exact ⟨0, 1, rfl, rfl, by omega, by omega, by omega, by omega, H0⟩
    case round =>
      obtain ⟨j, n, rfl, rfl, hj, hjs, n1, n2, HR⟩ := hrel
      by_cases hlt : (j : Int) < a0
      · by_cases h12 : 12 ≤ (j : Int)
        · have hr := HR0.out
          rw [if_pos (by omega)] at hr
          simp only [Prod.mk.injEq] at hr
          have HX := Lib.hid hr
          clear hr HR0
          go_wp2
          go_ret2
          obtain ⟨rfl, rfl⟩ := HX.out
          exact ⟨rfl, Below.refl _ _⟩
        · have hR := HR.out
          rw [show s - j = (s - (j + 1)) + 1 by omega, wholeL] at hR
          have hb12 : decide (12 ≤ (j : Int)) = false := decide_eq_false h12
          rcases Classical.em (1152921504606846976 / a1 < n) with hq | hq
          · rw [if_pos hq] at hR
            have hqb : decide (1152921504606846976 / a1 < n) = true := decide_eq_true hq
            have hr := HR0.out
            rw [← hR] at hr
            simp only [show ¬ ((3 : Int) = 0) by decide, if_false, ite_self, Prod.mk.injEq] at hr
            have HX := Lib.hid hr
            clear HR hR hq hr HR0
            go_wp2
            go_ret2
            obtain ⟨rfl, rfl⟩ := HX.out
            exact ⟨rfl, Below.refl _ _⟩
          · rw [if_neg hq] at hR
            have HR2 := Lib.hid hR
            have hqb : decide (1152921504606846976 / a1 < n) = false := decide_eq_false hq
            have m1 : 1 ≤ n * a1 := by have := Int.mul_le_mul n1 (show 1 ≤ a1 by omega) (by omega) (by omega); simpa using this
            have m2 : n * a1 ≤ 1152921504606846976 := by
              have := Int.mul_le_of_le_ediv (show 0 < a1 by omega) (show n ≤ 1152921504606846976 / a1 by omega)
              exact this
            clear HR hR hq
            go_wp2
            go_round
            case rel => exact ⟨j + 1, _, rfl, by go_num, by omega, by omega, m1, m2, HR2⟩
            case measure => simp [intOf]; omega
      · have hR := HR.out
        rw [show s - j = 0 by omega, wholeL] at hR
        have hr := HR0.out
        rw [← hR, if_neg (by omega), if_pos rfl] at hr
        simp only [Prod.mk.injEq] at hr
        have HX := Lib.hid hr
        clear HR hR hr HR0
        go_wp2
        go_ret2
        obtain ⟨rfl, rfl⟩ := HX.out
        exact ⟨rfl, Below.refl _ _⟩
  · cases h
end Go.Proofs.Ytgofaifmbjallaa.Cn
