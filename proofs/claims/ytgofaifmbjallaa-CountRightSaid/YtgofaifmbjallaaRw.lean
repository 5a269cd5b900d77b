import Derived.Test.YtgofaifmbjallaaPax6
import Derived.Test.YtgofaifmbjallaaC3
/-! What the reference tells of outcomes and weights. -/
namespace Go.Proofs.Ytgofaifmbjallaa.Pure
open Go.RowKit Go.Proofs.Ytgofaifmbjallaa.Pa Go.Proofs.YtgofaifmbjallaaW.PrintWords Go.Proofs.YtgofaifmbjallaaW.PrintLast Go.Proofs.YtgofaifmbjallaaW.PrintMore
open Go.Proofs.Ytgofaifmbjallaa.Cn

theorem shr_nat (b i : Nat) (hi : i ≤ 64) : shr .i64 (b : Int) (i : Int) = (b : Int) / 2 ^ i := by
  unfold shr
  rw [Int.toNat_natCast, Nat.min_eq_left (by simpa [IntKind.bits] using hi)]

theorem outcome_step (n b : Nat) (hn : n ≤ 60) : ∀ m i k : Nat, i + m = n → m + 1 ≤ k → overburdenref07_Outcome.l0 k n b (outL i b) i = some (outL n b) := by
  intro m
  induction m with
  | zero =>
    intro i k hi hk
    obtain ⟨k, rfl⟩ : ∃ j, k = j + 1 := ⟨k - 1, by omega⟩
    rw [overburdenref07_Outcome.l0, if_neg (by omega)]
    obtain rfl : i = n := by omega
    rfl
  | succ m ih =>
    intro i k hi hk
    obtain ⟨k, rfl⟩ : ∃ j, k = j + 1 := ⟨k - 1, by omega⟩
    rw [overburdenref07_Outcome.l0, if_pos (by omega), if_pos (by omega), if_pos (by rw [outL_len]; omega), shr_nat _ _ (by omega), bit_eq, wrap_id (by omega) (by omega)]
    have e : outL i b ++ [b.testBit i] = outL (i + 1) b := by
      simp [outL, List.range_succ]
    rw [e]
    exact ih (i + 1) k (by omega) (by omega)
theorem ref_outcome (n b k : Nat) (hn : n ≤ 60) (hk : n + 1 ≤ k) : overburdenref07_Outcome.f k n b = some (outL n b) := by
  have := outcome_step n b hn n 0 k (by omega) hk
  rw [overburdenref07_Outcome.f]
  simpa [outL] using this

theorem rdOf_nat {l : List Bool} {i : Nat} (h : i < l.length) : rdOf false l (i : Int) = l[i] := by
  simp [rdOf, h]

theorem weight_step (l : List Bool) (D r : Int) (hD : 0 ≤ D) (hD2 : D ≤ 9000) (hr : 0 ≤ r) (hr2 : r ≤ 9000) (hl : l.length ≤ 4000) : ∀ m i k : Nat, ∀ n : Int, i + m = l.length → m + 1 ≤ k →
    overburdenref07_Weight.l0 k l D r n i = some (wV D r (l.drop i) n) := by
  intro m
  induction m with
  | zero =>
    intro i k n hi hk
    obtain ⟨k, rfl⟩ : ∃ j, k = j + 1 := ⟨k - 1, by omega⟩
    rw [overburdenref07_Weight.l0, if_neg (by omega), List.drop_of_length_le (by omega), wV]
  | succ m ih =>
    intro i k n hi hk
    obtain ⟨k, rfl⟩ : ∃ j, k = j + 1 := ⟨k - 1, by omega⟩
    have hlt : i < l.length := by omega
    rw [overburdenref07_Weight.l0, if_pos (by omega), if_pos (by omega), rdOf_nat hlt, List.drop_eq_getElem_cons hlt, wV, wrap_id (x := (i : Int) + 1) (by omega) (by omega)]
    cases h : l[i]
    · rw [if_neg (by simp), if_neg (by simp)]
      exact ih (i + 1) k _ (by omega) (by omega)
    · rw [if_pos rfl, if_pos rfl]
      exact ih (i + 1) k _ (by omega) (by omega)
theorem ref_weight (l : List Bool) (D r : Int) (k : Nat) (hD : 0 ≤ D) (hD2 : D ≤ 9000) (hr : 0 ≤ r) (hr2 : r ≤ 9000) (hl : l.length ≤ 4000) (hk : l.length + 1 ≤ k) :
    overburdenref07_Weight.f k l D r = some (wV D r l 1) := by
  rw [overburdenref07_Weight.f]
  have := weight_step l D r hD hD2 hr hr2 hl l.length 0 k 1 (by omega) hk
  simpa using this

/-- a power of parts -/
def pw (D : Int) : Nat → Int
  | 0 => 1
  | i + 1 => D * pw D i
theorem pw_pos {D : Int} (h : 1 ≤ D) : ∀ i, 1 ≤ pw D i
  | 0 => by simp [pw]
  | i + 1 => by
    have := pw_pos h i
    rw [pw]
    have := Int.mul_le_mul h this (by omega) (by omega)
    simpa using this
/-- the weight of slots, told from behind -/
def wT (D k : Int) : List Bool → Int
  | [] => 1
  | x :: l => (if x then k else D - k) * wT D k l
theorem wT_nn {D k : Int} (hk : 0 ≤ k) (hk2 : k ≤ D) : ∀ l, 0 ≤ wT D k l
  | [] => by simp [wT]
  | x :: l => by
    rw [wT]
    exact Int.mul_nonneg (by split <;> omega) (wT_nn hk hk2 l)
theorem wT_le {D k : Int} (hk : 0 ≤ k) (hk2 : k ≤ D) (hD : 0 ≤ D) : ∀ l, wT D k l ≤ pw D l.length
  | [] => by simp [wT, pw]
  | x :: l => by
    rw [wT, List.length_cons, pw]
    exact mul_le_nn (by split <;> omega) (wT_le hk hk2 hD l) (wT_nn hk hk2 l) hD
/-- what the machine reckons of a weight does not wrap around, while the whole weight is small -/
theorem wV_T {D k : Int} (hk : 0 ≤ k) (hk2 : k ≤ D) (hD : 1 ≤ D) (hD2 : D ≤ 9000) : ∀ (l : List Bool) (n : Int), 0 ≤ n → n * pw D l.length ≤ 9000000000000000000 → wV D k l n = n * wT D k l
  | [], n, _, _ => by simp [wV, wT]
  | x :: l, n, hn, hb => by
    have hp := pw_pos hD l.length
    rw [List.length_cons, pw, ← Int.mul_assoc] at hb
    have h1 : n * D ≤ 9000000000000000000 := by
      refine Int.le_trans ?_ hb
      have := Int.mul_le_mul_of_nonneg_left hp (show 0 ≤ n * D from Int.mul_nonneg hn (by omega))
      simpa using this
    have key : ∀ f : Int, 0 ≤ f → f ≤ D → wV D k l (wrap64 (n * f)) = n * (f * wT D k l) := by
      intro f f0 f1
      have g0 : 0 ≤ n * f := Int.mul_nonneg hn f0
      have g1 : n * f ≤ n * D := Int.mul_le_mul_of_nonneg_left f1 hn
      rw [wrap_id (by omega) (by omega), wV_T hk hk2 hD hD2 l (n * f) g0 (Int.le_trans (Int.mul_le_mul_of_nonneg_right g1 (by omega)) hb), Int.mul_assoc]
    rw [wV, wT]
    cases x
    · simp only [Bool.false_eq_true, if_false]
      rw [wrap_id (x := D - k) (by omega) (by omega)]
      exact key _ (by omega) (by omega)
    · simp only [if_true]
      exact key _ hk hk2
end Go.Proofs.Ytgofaifmbjallaa.Pure
