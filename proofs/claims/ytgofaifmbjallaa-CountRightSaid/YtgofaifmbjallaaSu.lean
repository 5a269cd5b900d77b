import Derived.Test.YtgofaifmbjallaaRw
/-! Sums over all outcomes. -/
namespace Go.Proofs.Ytgofaifmbjallaa.Pure
open Go.RowKit Go.Proofs.Ytgofaifmbjallaa.Pa Go.Proofs.YtgofaifmbjallaaW.PrintWords Go.Proofs.YtgofaifmbjallaaW.PrintLast Go.Proofs.YtgofaifmbjallaaW.PrintMore
open Go.Proofs.Ytgofaifmbjallaa.Cn

/-- a sum over the numbers below some number -/
def sumN (f : Nat → Int) : Nat → Int
  | 0 => 0
  | b + 1 => sumN f b + f b
theorem sumN_congr {f g : Nat → Int} : ∀ n, (∀ b, b < n → f b = g b) → sumN f n = sumN g n
  | 0, _ => rfl
  | n + 1, h => by rw [sumN, sumN, sumN_congr n (fun b hb => h b (by omega)), h n (by omega)]
theorem sumN_nn {f : Nat → Int} : ∀ n, (∀ b, b < n → 0 ≤ f b) → 0 ≤ sumN f n
  | 0, _ => by simp [sumN]
  | n + 1, h => by
    have := sumN_nn n (fun b hb => h b (by omega))
    have := h n (by omega)
    rw [sumN]; omega
theorem sumN_le {f g : Nat → Int} : ∀ n, (∀ b, b < n → f b ≤ g b) → sumN f n ≤ sumN g n
  | 0, _ => by simp [sumN]
  | n + 1, h => by
    have := sumN_le n (fun b hb => h b (by omega))
    have := h n (by omega)
    rw [sumN, sumN]; omega
theorem sumN_up {f : Nat → Int} (h : ∀ b, 0 ≤ f b) {m : Nat} : ∀ n, m ≤ n → sumN f m ≤ sumN f n := by
  intro n hn
  induction n with
  | zero => obtain rfl : m = 0 := by omega
            exact Int.le_refl _
  | succ n ih =>
    rcases Nat.lt_or_ge m (n + 1) with h1 | h1
    · have := ih (by omega)
      have := h n
      rw [sumN]; omega
    · obtain rfl : m = n + 1 := by omega
      exact Int.le_refl _
theorem sumN_add (f g : Nat → Int) : ∀ n, sumN (fun b => f b + g b) n = sumN f n + sumN g n
  | 0 => rfl
  | n + 1 => by rw [sumN, sumN, sumN, sumN_add f g n]; omega
theorem sumN_mul (c : Int) (f : Nat → Int) : ∀ n, sumN (fun b => c * f b) n = c * sumN f n
  | 0 => by simp [sumN]
  | n + 1 => by rw [sumN, sumN, sumN_mul c f n, Int.mul_add]
theorem sumN_two (f : Nat → Int) : ∀ m, sumN f (2 * m) = sumN (fun b => f (2 * b) + f (2 * b + 1)) m
  | 0 => rfl
  | m + 1 => by
    rw [show 2 * (m + 1) = 2 * m + 1 + 1 by omega, sumN, sumN, sumN_two f m, sumN]; omega

/-- a sum over all lists of so many slots -/
def sumL : Nat → (List Bool → Int) → Int
  | 0, F => F []
  | n + 1, F => sumL n (fun l => F (false :: l)) + sumL n (fun l => F (true :: l))
theorem outL_succ (n b : Nat) : outL (n + 1) b = b.testBit 0 :: outL n (b / 2) := by
  simp only [outL, List.range_succ_eq_map, List.map_cons, List.map_map]
  congr 1
  apply List.map_congr_left
  intro i _
  simp [Nat.testBit_succ]
theorem sumL_add : ∀ (n : Nat) (F G : List Bool → Int), sumL n (fun l => F l + G l) = sumL n F + sumL n G
  | 0, _, _ => rfl
  | n + 1, F, G => by rw [sumL, sumL, sumL, sumL_add n, sumL_add n]; omega
theorem sumL_mul (c : Int) : ∀ (n : Nat) (F : List Bool → Int), sumL n (fun l => c * F l) = c * sumL n F
  | 0, _ => rfl
  | n + 1, F => by rw [sumL, sumL, sumL_mul c n, sumL_mul c n, Int.mul_add]
theorem sumL_le : ∀ (n : Nat) (F G : List Bool → Int), (∀ l, l.length = n → F l ≤ G l) → sumL n F ≤ sumL n G
  | 0, _, _, h => h [] rfl
  | n + 1, F, G, h => by
    have h1 := sumL_le n (fun l => F (false :: l)) (fun l => G (false :: l)) (fun l e => h _ (by simp [e]))
    have h2 := sumL_le n (fun l => F (true :: l)) (fun l => G (true :: l)) (fun l e => h _ (by simp [e]))
    rw [sumL, sumL]; omega
theorem sumL_congr (n : Nat) (F G : List Bool → Int) (h : ∀ l, l.length = n → F l = G l) : sumL n F = sumL n G :=
  Int.le_antisymm (sumL_le n F G (fun l e => Int.le_of_eq (h l e))) (sumL_le n G F (fun l e => Int.le_of_eq (h l e).symm))
theorem sumN_L : ∀ (n : Nat) (F : List Bool → Int), sumN (fun b => F (outL n b)) (2 ^ n) = sumL n F
  | 0, F => by simp [sumN, sumL, outL]
  | n + 1, F => by
    rw [Nat.pow_succ, Nat.mul_comm, sumN_two, sumL, ← sumN_L n, ← sumN_L n, ← sumN_add]
    apply sumN_congr
    intro b _
    rw [outL_succ, outL_succ]
    have e1 : (2 * b).testBit 0 = false := by simp
    have e2 : (2 * b + 1).testBit 0 = true := by simp
    have e3 : (2 * b + 1) / 2 = b := by omega
    have e4 : (2 * b) / 2 = b := by omega
    rw [e1, e2, e3, e4]
theorem sumL_w (D k : Int) : ∀ n, sumL n (wT D k) = pw D n
  | 0 => rfl
  | n + 1 => by
    rw [sumL, pw]
    simp only [wT, Bool.false_eq_true, if_false, if_true]
    rw [sumL_mul, sumL_mul, sumL_w D k n, ← Int.add_mul]
    congr 1; omega

theorem wholeL_T {D : Int} (hD : 1 ≤ D) : ∀ (i : Nat) (n : Int), 0 ≤ n → n ≤ 1152921504606846976 → (wholeL D i n).2 = 0 → (wholeL D i n).1 = n * pw D i ∧ n * pw D i ≤ 1152921504606846976
  | 0, n, h0, h1, _ => by simp [wholeL, pw]; omega
  | i + 1, n, h0, h1, h => by
    rw [wholeL] at h ⊢
    split at h
    · exact absurd h (by decide)
    · rename_i hq
      rw [if_neg hq]
      have hm : n * D ≤ 1152921504606846976 := Int.mul_le_of_le_ediv (show 0 < D by omega) (by omega)
      have := wholeL_T hD i (n * D) (Int.mul_nonneg h0 (by omega)) hm h
      rw [pw, ← Int.mul_assoc]
      exact this
/-- where the whole weight is too much, it is -/
theorem wholeL_N {D : Int} (hD : 1 ≤ D) : ∀ (i : Nat) (n : Int), 0 ≤ n → n * pw D i ≤ 1152921504606846976 → (wholeL D i n).2 = 0
  | 0, n, _, _ => rfl
  | i + 1, n, h0, h => by
    rw [pw, ← Int.mul_assoc] at h
    have hp := pw_pos hD i
    have h0' : 0 ≤ n * D := Int.mul_nonneg h0 (by omega)
    have hm : n * D ≤ 1152921504606846976 := by
      refine Int.le_trans ?_ h
      have := Int.mul_le_mul_of_nonneg_left hp h0'
      simpa using this
    have : n ≤ 1152921504606846976 / D := Int.le_ediv_of_mul_le (by omega) hm
    rw [wholeL, if_neg (by omega)]
    exact wholeL_N hD i (n * D) h0' h
theorem whole_T {s : Nat} {D : Int} (h : (wholeV s D).2 = 0) : (wholeV s D).1 = pw D s ∧ pw D s ≤ 1152921504606846976 := by
  obtain ⟨h1, h2, h3, h4⟩ := wholeV_ok h
  rw [wholeV, if_neg (by omega), if_neg (by omega), Int.toNat_natCast] at h ⊢
  have := wholeL_T (D := D) (by omega) s 1 (by omega) (by omega) h
  simpa using this
end Go.Proofs.Ytgofaifmbjallaa.Pure
