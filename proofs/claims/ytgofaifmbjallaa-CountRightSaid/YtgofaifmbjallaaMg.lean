import Derived.Test.YtgofaifmbjallaaSu
/-! The bet against the true rate, summed over all outcomes, never gains: so a rate is excluded with little weight. -/
namespace Go.Proofs.Ytgofaifmbjallaa.Pure
open Go.RowKit Go.Proofs.Ytgofaifmbjallaa.Pa Go.Proofs.YtgofaifmbjallaaW.PrintWords Go.Proofs.YtgofaifmbjallaaW.PrintLast Go.Proofs.YtgofaifmbjallaaW.PrintMore
open Go.Proofs.Ytgofaifmbjallaa.Cn

/-- one rate alone -/
def run1 (D A : Int) (k : Nat) : List Bool → KS → KS
  | [], s => s
  | x :: l, s => run1 D A k l (KS.step D A x k s)
theorem runS_1 (D A : Int) (k : Nat) : ∀ (l : List Bool) (S : Nat → KS), runS D A l S k = run1 D A k l (S k)
  | [], _ => rfl
  | x :: l, S => by rw [runS, run1, runS_1 D A k l]; rfl

/-- what is known of a bet while it runs -/
structure Run (D : Int) (s : KS) : Prop where
  n0 : 0 ≤ s.n
  h0 : 0 ≤ s.h
  hn : s.h ≤ s.n
  c0 : 0 ≤ s.c
theorem Run.step {D A : Int} {s : KS} (hD : 0 ≤ D) {k : Nat} (hk : (k : Int) ≤ D) (x : Bool) (h : Run D s) : Run D (KS.step D A x k s) := by
  obtain ⟨n0, h0, hn, c0⟩ := h
  unfold KS.step
  split
  · exact ⟨n0, h0, hn, c0⟩
  · cases x
    · refine ⟨by simp only; omega, by simp only [b2i]; simp; omega, by simp only [b2i]; simp; omega, ?_⟩
      simp only [moveV, Bool.false_eq_true, if_false]
      exact missV_nn c0 hn hD n0 hk
    · refine ⟨by simp only; omega, by simp only [b2i]; simp; omega, by simp only [b2i]; simp; omega, ?_⟩
      simp only [moveV, if_true]
      exact hitV_nn c0 h0 hD n0 (by omega)

/-- the worth of a bet: what it has, or what excludes its rate -/
def worth (A : Int) (s : KS) : Int := if s.out = true then A * 1048576 else s.c
theorem worth_nn {D A : Int} {s : KS} (hA : 0 ≤ A) (h : Run D s) : 0 ≤ worth A s := by
  unfold worth; split
  · exact Int.mul_nonneg hA (by omega)
  · exact h.c0
theorem worth_step {D A : Int} {s : KS} (k : Nat) (x : Bool) (ho : s.out = false) : worth A (KS.step D A x k s) ≤ moveV x D s.n s.h k s.c := by
  unfold worth KS.step
  simp only [ho, Bool.false_eq_true, if_false, decide_eq_true_eq]
  split
  · assumption
  · exact Int.le_refl _
theorem worth_out {D A : Int} {s : KS} (k : Nat) (x : Bool) (ho : s.out = true) : KS.step D A x k s = s := by
  unfold KS.step; rw [if_pos ho]

theorem worth_fair {D A : Int} {s : KS} {k : Nat} (hk : (k : Int) ≤ D) (h : Run D s) :
    (D - k) * worth A (KS.step D A false k s) + k * worth A (KS.step D A true k s) ≤ D * worth A s := by
  cases ho : s.out
  · have e1 := worth_step (D := D) (A := A) k false ho
    have e2 := worth_step (D := D) (A := A) k true ho
    have e3 := fair (D := D) (n := s.n) (h := s.h) (k := k) (c := s.c) (by omega) hk h.n0
    have e4 : worth A s = s.c := by unfold worth; rw [if_neg (by simp [ho])]
    simp only [moveV, Bool.false_eq_true, if_false, if_true] at e1 e2
    have f1 := Int.mul_le_mul_of_nonneg_left e1 (show 0 ≤ D - k by omega)
    have f2 := Int.mul_le_mul_of_nonneg_left e2 (show (0 : Int) ≤ k by omega)
    rw [e4]; omega
  · rw [worth_out k false ho, worth_out k true ho, ← Int.add_mul, show D - (k : Int) + k = D by omega]
    exact Int.le_refl _

theorem worth_sum {D A : Int} {k : Nat} (hD : 0 ≤ D) (hk : (k : Int) ≤ D) : ∀ (m : Nat) (s : KS), Run D s →
    sumL m (fun l => wT D k l * worth A (run1 D A k l s)) ≤ pw D m * worth A s
  | 0, s, h => by simp [sumL, wT, run1, pw]
  | m + 1, s, h => by
    have i1 := worth_sum (A := A) hD hk m _ (h.step hD hk false (A := A))
    have i2 := worth_sum (A := A) hD hk m _ (h.step hD hk true (A := A))
    have e3 := worth_fair (A := A) hk h
    have hp : 0 ≤ pw D m := by
      rcases Int.lt_or_eq_of_le hD with h1 | h1
      · have := pw_pos (D := D) (by omega) m; omega
      · subst h1
        cases m
        · simp [pw]
        · simp [pw]
    rw [sumL, pw]
    simp only [wT, run1, Bool.false_eq_true, if_false, if_true, Int.mul_assoc]
    rw [sumL_mul, sumL_mul]
    generalize sumL m (fun l => wT D k l * worth A (run1 D A k l (KS.step D A false k s))) = x at *
    generalize sumL m (fun l => wT D k l * worth A (run1 D A k l (KS.step D A true k s))) = y at *
    generalize worth A (KS.step D A false k s) = u at *
    generalize worth A (KS.step D A true k s) = v at *
    have f1 := Int.mul_le_mul_of_nonneg_left i1 (show 0 ≤ D - k by omega)
    have f2 := Int.mul_le_mul_of_nonneg_left i2 (show (0 : Int) ≤ k by omega)
    have f3 := Int.mul_le_mul_of_nonneg_left e3 hp
    have g1 : (D - k) * (pw D m * u) + k * (pw D m * v) = pw D m * ((D - k) * u + k * v) := by
      rw [Int.mul_add, Int.mul_left_comm, Int.mul_left_comm (k : Int)]
    have g2 : pw D m * (D * worth A s) = D * (pw D m * worth A s) := Int.mul_left_comm _ _ _
    omega

/-- the weight of what a test tells, over all outcomes -/
def wOf (D : Int) (k : Nat) (t : List Bool → Bool) (l : List Bool) : Int := if t l = true then wT D k l else 0
/-- THE THEOREM OF CONFIDENCE: the outcomes that exclude a rate have little weight for it. -/
theorem sure {D A : Int} {k : Nat} (hD : 0 ≤ D) (hk : (k : Int) ≤ D) (hA : 0 ≤ A) (m : Nat) (s : KS) (h : Run D s) (t : List Bool → Bool) (ht : ∀ l, t l = true → (run1 D A k l s).out = true) (hs : worth A s ≤ 1048576) :
    A * sumL m (wOf D k t) ≤ pw D m := by
  have e1 := worth_sum (A := A) hD hk m s h
  have hrun : ∀ (l : List Bool) (s : KS), Run D s → Run D (run1 D A k l s) := by
    intro l
    induction l with
    | nil => exact fun s h => h
    | cons x l ih => exact fun s h => ih _ (h.step hD hk x)
  have e2 : sumL m (fun l => (A * 1048576) * wOf D k t l) ≤ sumL m (fun l => wT D k l * worth A (run1 D A k l s)) := by
    apply sumL_le
    intro l _
    have w0 := wT_nn (D := D) (k := k) (by omega) hk l
    unfold wOf
    split
    · rename_i hl
      have : worth A (run1 D A k l s) = A * 1048576 := by unfold worth; rw [if_pos (ht l hl)]
      rw [this, Int.mul_comm]; exact Int.le_refl _
    · rw [Int.mul_zero]
      exact Int.mul_nonneg w0 (worth_nn hA (hrun l s h))
  rw [sumL_mul] at e2
  have hp : 0 ≤ pw D m := by
    rw [← sumL_w D k m]
    have := sumL_le m (fun _ => 0) (wT D k) (fun l _ => wT_nn (by omega) hk l)
    have z := sumL_mul 0 m (wT D k)
    simp at z
    omega
  have e3 := Int.mul_le_mul_of_nonneg_left hs hp
  generalize sumL m (wOf D k t) = S at *
  have e4 : A * 1048576 * S = 1048576 * (A * S) := by rw [Int.mul_comm A, Int.mul_assoc]
  omega
theorem run_start (D : Int) (k : Nat) : Run D (Cn.start k) := ⟨by simp [Cn.start], by simp [Cn.start], by simp [Cn.start], by simp [Cn.start]⟩
theorem worth_start (A : Int) (k : Nat) : worth A (Cn.start k) ≤ 1048576 := by simp [worth, Cn.start]
end Go.Proofs.Ytgofaifmbjallaa.Pure
