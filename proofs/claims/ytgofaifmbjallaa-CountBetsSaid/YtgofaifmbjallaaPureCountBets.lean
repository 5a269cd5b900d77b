import Derived.Test.YtgofaifmbjallaaPax5
import Derived.Test.YtgofaifmbjallaaRb
import Derived.Test.YtgofaifmbjallaaKn
/-! The pure law CountBets. -/
namespace Go.Proofs.Ytgofaifmbjallaa.Pure
open Go.RowKit Go.Proofs.Ytgofaifmbjallaa.Pa Go.Proofs.YtgofaifmbjallaaW.PrintWords Go.Proofs.YtgofaifmbjallaaW.PrintLast
open Go.Proofs.Ytgofaifmbjallaa.Cn

theorem ref_parts (D : Int) : overburdenref07_Parts.f D = some (withinB D 2 1000) := by
  unfold overburdenref07_Parts.f overburdenref07_in.f withinB
  by_cases h : 2 ≤ D
  · rw [if_pos h]; simp [h]
  · rw [if_neg h]; simp [h]

theorem bets_bad (k : Nat) (x0 x1 x2 x3 x4 : Int) (hk : 11 ≤ k) : overburdenlaw07_CountBets.j0 k x0 x1 x2 x3 x4 0 0 2 true = some true := by
  obtain ⟨k, rfl⟩ : ∃ j, k = j + 1 := ⟨k - 1, by omega⟩
  rw [overburdenlaw07_CountBets.j0, if_pos rfl, if_pos rfl, if_pos rfl, if_pos rfl, known_true k (by omega)]
  rfl

theorem CountBets : overburdenlaw07_CountBets.Pure := by
  intro c n h D r _ _ _ _ _
  refine ⟨12, ?_⟩
  unfold overburdenlaw07_CountBets.f
  rw [ref_parts]
  by_cases hok : (withinB D 2 1000 && withinB n 0 4000 && withinB h 0 n && withinB c 0 1000000000000 && withinB r 0 D) = true
  · rw [count_Bet.f, if_pos hok]
    simp only [Bool.and_eq_true, withinB_iff] at hok
    obtain ⟨⟨⟨⟨⟨a1, a2⟩, a3, a4⟩, a5, a6⟩, a7, a8⟩, a9, a10⟩ := hok
    have hw : withinB D 2 1000 = true := withinB_iff.2 ⟨a1, a2⟩
    have hb := ref_bet a2 a1 a3 a4 a5 a6 a7 a8 a9 a10 9
    have hf := fair (D := D) (n := n) (h := h) (k := r) (c := c) a9 a10 a3
    have u1 := hitV_nn (D := D) (n := n) (h := h) (k := r) (c := c) a7 a5 (by omega) a3 a9
    have u2 := missV_nn (D := D) (n := n) (h := h) (k := r) (c := c) a7 a6 (by omega) a3 a10
    have u3 := hitV_top (D := D) (n := n) (h := h) (k := r) (c := c) a8
    have u4 := missV_top (D := D) (n := n) (h := h) (k := r) (c := c) a8
    generalize hitV D n h r c = x at *
    generalize missV D n h r c = y at *
    have v1 : 0 ≤ r * x := Int.mul_nonneg a9 u1
    have v2 : 0 ≤ (D - r) * y := Int.mul_nonneg (by omega) u2
    have v3 : D * c ≤ 1000 * 1000000000000 := mul_le_nn a2 a8 a7 (by omega)
    simp only [Option.bind_some, hw]
    rw [if_pos trivial, if_neg (by omega), if_neg (by omega), if_neg (by omega), if_neg (by omega), if_neg (by omega), if_neg (by omega), if_neg (by omega)]
    rw [show decide (r > D) = false by simp; omega]
    rw [overburdenlaw07_CountBets.j0, if_neg (by simp), hb]
    simp only [Option.bind_some]
    rw [if_pos trivial, if_pos trivial, if_pos trivial, known_true 11 (by omega)]
    simp only [Option.bind_some]
    split
    · rfl
    · split
      · rfl
      · rw [wrap_id (x := D - r) (by omega) (by omega), wrap_id (x := r * x) (by omega) (by omega), wrap_id (x := (D - r) * y) (by omega) (by omega), wrap_id (x := r * x + (D - r) * y) (by omega) (by omega), wrap_id (x := D * c) (by omega) (by omega), if_pos hf]
  · rw [count_Bet.f, if_neg hok]
    simp only [Option.bind_some, bets_bad 12 _ _ _ _ _ (by omega)]
    simp only [Bool.and_eq_true, withinB_iff] at hok
    split
    · rename_i hw
      rw [withinB_iff] at hw
      repeat (split; rfl)
      rw [show decide (r > D) = true by simp; omega]
      exact bets_bad 12 _ _ _ _ _ (by omega)
    · rfl
end Go.Proofs.Ytgofaifmbjallaa.Pure
