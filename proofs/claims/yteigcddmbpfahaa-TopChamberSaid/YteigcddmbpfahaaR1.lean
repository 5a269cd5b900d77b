/- Texts of one claim joined into one: words and contracts. -/
import Derived.Test.YteigcddmbpfahaaPax6
import Derived.Test.YteigcddmbpfahaaC3
set_option linter.unusedVariables false
set_option linter.unusedSimpArgs false
section
namespace Go.Proofs.Yteigcddmbpfahaa.Pure
open Go.RowKit Go.Proofs.Yteigcddmbpfahaa.Pa Go.Proofs.YteigcddmbpfahaaW.PrintWords Go.Proofs.YteigcddmbpfahaaW.PrintLast Go.Proofs.YteigcddmbpfahaaW.PrintMore
open Go.Proofs.Yteigcddmbpfahaa.Cn

theorem shr_nat (b i : Nat) (hi : i ≤ 64) : shr .i64 (b : Int) (i : Int) = (b : Int) / 2 ^ i := by
  unfold shr
  rw [Int.toNat_natCast, Nat.min_eq_left (by simpa [IntKind.bits] using hi)]

theorem outcome_step (n b : Nat) (hn : n ≤ 60) : ∀ m i k : Nat, i + m = n → m + 1 ≤ k → overburdenref07_Outcome.l0 k n b (outL i b) i = some (outL n b) := by
  intro m
  induction m with
  | zero =>
    intro i k hi hk
    obtain ⟨k, rfl⟩ : ∃ j, k = j + 1 := ⟨k - 1, by omega⟩
    rw [overburdenref07_Outcome.l0, if_neg (by omega)]
    obtain rfl : i = n := by omega
    rfl
  | succ m ih =>
    intro i k hi hk
    obtain ⟨k, rfl⟩ : ∃ j, k = j + 1 := ⟨k - 1, by omega⟩
    rw [overburdenref07_Outcome.l0, if_pos (by omega), if_pos (by omega), if_pos (by rw [outL_len]; omega), shr_nat _ _ (by omega), bit_eq, wrap_id (by omega) (by omega)]
    have e : outL i b ++ [b.testBit i] = outL (i + 1) b := by
      simp [outL, List.range_succ]
    rw [e]
    exact ih (i + 1) k (by omega) (by omega)
theorem ref_outcome (n b k : Nat) (hn : n ≤ 60) (hk : n + 1 ≤ k) : overburdenref07_Outcome.f k n b = some (outL n b) := by
  have := outcome_step n b hn n 0 k (by omega) hk
  rw [overburdenref07_Outcome.f]
  simpa [outL] using this

theorem rdOf_nat {l : List Bool} {i : Nat} (h : i < l.length) : rdOf false l (i : Int) = l[i] := by
  simp [rdOf, h]

theorem weight_step (l : List Bool) (D r : Int) (hD : 0 ≤ D) (hD2 : D ≤ 9000) (hr : 0 ≤ r) (hr2 : r ≤ 9000) (hl : l.length ≤ 4000) : ∀ m i k : Nat, ∀ n : Int, i + m = l.length → m + 1 ≤ k →
    overburdenref07_Weight.l0 k l D r n i = some (wV D r (l.drop i) n) := by
  intro m
  induction m with
  | zero =>
    intro i k n hi hk
    obtain ⟨k, rfl⟩ : ∃ j, k = j + 1 := ⟨k - 1, by omega⟩
    rw [overburdenref07_Weight.l0, if_neg (by omega), List.drop_of_length_le (by omega), wV]
  | succ m ih =>
    intro i k n hi hk
    obtain ⟨k, rfl⟩ : ∃ j, k = j + 1 := ⟨k - 1, by omega⟩
    have hlt : i < l.length := by omega
    rw [overburdenref07_Weight.l0, if_pos (by omega), if_pos (by omega), rdOf_nat hlt, List.drop_eq_getElem_cons hlt, wV, wrap_id (x := (i : Int) + 1) (by omega) (by omega)]
    cases h : l[i]
    · rw [if_neg (by simp), if_neg (by simp)]
      exact ih (i + 1) k _ (by omega) (by omega)
    · rw [if_pos rfl, if_pos rfl]
      exact ih (i + 1) k _ (by omega) (by omega)
theorem ref_weight (l : List Bool) (D r : Int) (k : Nat) (hD : 0 ≤ D) (hD2 : D ≤ 9000) (hr : 0 ≤ r) (hr2 : r ≤ 9000) (hl : l.length ≤ 4000) (hk : l.length + 1 ≤ k) :
    overburdenref07_Weight.f k l D r = some (wV D r l 1) := by
  rw [overburdenref07_Weight.f]
  have := weight_step l D r hD hD2 hr hr2 hl l.length 0 k 1 (by omega) hk
  simpa using this

def pw (D : Int) : Nat → Int
  | 0 => 1
  | i + 1 => D * pw D i
theorem pw_pos {D : Int} (h : 1 ≤ D) : ∀ i, 1 ≤ pw D i
  | 0 => by simp [pw]
  | i + 1 => by
    have := pw_pos h i
    rw [pw]
    have := Int.mul_le_mul h this (by omega) (by omega)
    simpa using this
def wT (D k : Int) : List Bool → Int
  | [] => 1
  | x :: l => (if x then k else D - k) * wT D k l
theorem wT_nn {D k : Int} (hk : 0 ≤ k) (hk2 : k ≤ D) : ∀ l, 0 ≤ wT D k l
  | [] => by simp [wT]
  | x :: l => by
    rw [wT]
    exact Int.mul_nonneg (by split <;> omega) (wT_nn hk hk2 l)
theorem wV_T {D k : Int} (hk : 0 ≤ k) (hk2 : k ≤ D) (hD : 1 ≤ D) (hD2 : D ≤ 9000) : ∀ (l : List Bool) (n : Int), 0 ≤ n → n * pw D l.length ≤ 9000000000000000000 → wV D k l n = n * wT D k l
  | [], n, _, _ => by simp [wV, wT]
  | x :: l, n, hn, hb => by
    have hp := pw_pos hD l.length
    rw [List.length_cons, pw, ← Int.mul_assoc] at hb
    have h1 : n * D ≤ 9000000000000000000 := by
      refine Int.le_trans ?_ hb
      have := Int.mul_le_mul_of_nonneg_left hp (show 0 ≤ n * D from Int.mul_nonneg hn (by omega))
      simpa using this
    have key : ∀ f : Int, 0 ≤ f → f ≤ D → wV D k l (wrap64 (n * f)) = n * (f * wT D k l) := by
      intro f f0 f1
      have g0 : 0 ≤ n * f := Int.mul_nonneg hn f0
      have g1 : n * f ≤ n * D := Int.mul_le_mul_of_nonneg_left f1 hn
      rw [wrap_id (by omega) (by omega), wV_T hk hk2 hD hD2 l (n * f) g0 (Int.le_trans (Int.mul_le_mul_of_nonneg_right g1 (by omega)) hb), Int.mul_assoc]
    rw [wV, wT]
    cases x
    · simp only [Bool.false_eq_true, if_false]
      rw [wrap_id (x := D - k) (by omega) (by omega)]
      exact key _ (by omega) (by omega)
    · simp only [if_true]
      exact key _ hk hk2
end Go.Proofs.Yteigcddmbpfahaa.Pure
end
section
namespace Go.Proofs.Yteigcddmbpfahaa.Pure
open Go.RowKit Go.Proofs.Yteigcddmbpfahaa.Pa Go.Proofs.YteigcddmbpfahaaW.PrintWords Go.Proofs.YteigcddmbpfahaaW.PrintLast Go.Proofs.YteigcddmbpfahaaW.PrintMore
open Go.Proofs.Yteigcddmbpfahaa.Cn
def sumN (f : Nat → Int) : Nat → Int
  | 0 => 0
  | b + 1 => sumN f b + f b
theorem sumN_congr {f g : Nat → Int} : ∀ n, (∀ b, b < n → f b = g b) → sumN f n = sumN g n
  | 0, _ => rfl
  | n + 1, h => by rw [sumN, sumN, sumN_congr n (fun b hb => h b (by omega)), h n (by omega)]
theorem sumN_nn {f : Nat → Int} : ∀ n, (∀ b, b < n → 0 ≤ f b) → 0 ≤ sumN f n
  | 0, _ => by simp [sumN]
  | n + 1, h => by
    have := sumN_nn n (fun b hb => h b (by omega))
    have := h n (by omega)
    rw [sumN]; omega
theorem sumN_up {f : Nat → Int} (h : ∀ b, 0 ≤ f b) {m : Nat} : ∀ n, m ≤ n → sumN f m ≤ sumN f n := by
  intro n hn
  induction n with
  | zero => obtain rfl : m = 0 := by omega
            exact Int.le_refl _
  | succ n ih =>
    rcases Nat.lt_or_ge m (n + 1) with h1 | h1
    · have := ih (by omega)
      have := h n
      rw [sumN]; omega
    · obtain rfl : m = n + 1 := by omega
      exact Int.le_refl _
theorem sumN_add (f g : Nat → Int) : ∀ n, sumN (fun b => f b + g b) n = sumN f n + sumN g n
  | 0 => rfl
  | n + 1 => by rw [sumN, sumN, sumN, sumN_add f g n]; omega
theorem sumN_two (f : Nat → Int) : ∀ m, sumN f (2 * m) = sumN (fun b => f (2 * b) + f (2 * b + 1)) m
  | 0 => rfl
  | m + 1 => by
    rw [show 2 * (m + 1) = 2 * m + 1 + 1 by omega, sumN, sumN, sumN_two f m, sumN]; omega

def sumL : Nat → (List Bool → Int) → Int
  | 0, F => F []
  | n + 1, F => sumL n (fun l => F (false :: l)) + sumL n (fun l => F (true :: l))
theorem outL_succ (n b : Nat) : outL (n + 1) b = b.testBit 0 :: outL n (b / 2) := by
  simp only [outL, List.range_succ_eq_map, List.map_cons, List.map_map]
  congr 1
  apply List.map_congr_left
  intro i _
  simp [Nat.testBit_succ]
theorem sumL_mul (c : Int) : ∀ (n : Nat) (F : List Bool → Int), sumL n (fun l => c * F l) = c * sumL n F
  | 0, _ => rfl
  | n + 1, F => by rw [sumL, sumL, sumL_mul c n, sumL_mul c n, Int.mul_add]
theorem sumL_le : ∀ (n : Nat) (F G : List Bool → Int), (∀ l, l.length = n → F l ≤ G l) → sumL n F ≤ sumL n G
  | 0, _, _, h => h [] rfl
  | n + 1, F, G, h => by
    have h1 := sumL_le n (fun l => F (false :: l)) (fun l => G (false :: l)) (fun l e => h _ (by simp [e]))
    have h2 := sumL_le n (fun l => F (true :: l)) (fun l => G (true :: l)) (fun l e => h _ (by simp [e]))
    rw [sumL, sumL]; omega
theorem sumN_L : ∀ (n : Nat) (F : List Bool → Int), sumN (fun b => F (outL n b)) (2 ^ n) = sumL n F
  | 0, F => by simp [sumN, sumL, outL]
  | n + 1, F => by
    rw [Nat.pow_succ, Nat.mul_comm, sumN_two, sumL, ← sumN_L n, ← sumN_L n, ← sumN_add]
    apply sumN_congr
    intro b _
    rw [outL_succ, outL_succ]
    have e1 : (2 * b).testBit 0 = false := by simp
    have e2 : (2 * b + 1).testBit 0 = true := by simp
    have e3 : (2 * b + 1) / 2 = b := by omega
    have e4 : (2 * b) / 2 = b := by omega
    rw [e1, e2, e3, e4]
theorem sumL_w (D k : Int) : ∀ n, sumL n (wT D k) = pw D n
  | 0 => rfl
  | n + 1 => by
    rw [sumL, pw]
    simp only [wT, Bool.false_eq_true, if_false, if_true]
    rw [sumL_mul, sumL_mul, sumL_w D k n, ← Int.add_mul]
    congr 1; omega

end Go.Proofs.Yteigcddmbpfahaa.Pure
end
section
namespace Go.Proofs.Yteigcddmbpfahaa.Pure
open Go.RowKit Go.Proofs.Yteigcddmbpfahaa.Pa Go.Proofs.YteigcddmbpfahaaW.PrintWords Go.Proofs.YteigcddmbpfahaaW.PrintLast Go.Proofs.YteigcddmbpfahaaW.PrintMore
open Go.Proofs.Yteigcddmbpfahaa.Cn
def run1 (D A : Int) (k : Nat) : List Bool → KS → KS
  | [], s => s
  | x :: l, s => run1 D A k l (KS.step D A x k s)
theorem runS_1 (D A : Int) (k : Nat) : ∀ (l : List Bool) (S : Nat → KS), runS D A l S k = run1 D A k l (S k)
  | [], _ => rfl
  | x :: l, S => by rw [runS, run1, runS_1 D A k l]; rfl

structure Run (D : Int) (s : KS) : Prop where
  n0 : 0 ≤ s.n
  h0 : 0 ≤ s.h
  hn : s.h ≤ s.n
  c0 : 0 ≤ s.c
theorem Run.step {D A : Int} {s : KS} (hD : 0 ≤ D) {k : Nat} (hk : (k : Int) ≤ D) (x : Bool) (h : Run D s) : Run D (KS.step D A x k s) := by
  obtain ⟨n0, h0, hn, c0⟩ := h
  unfold KS.step
  split
  · exact ⟨n0, h0, hn, c0⟩
  · cases x
    · refine ⟨by simp only; omega, by simp only [b2i]; simp; omega, by simp only [b2i]; simp; omega, ?_⟩
      simp only [moveV, Bool.false_eq_true, if_false]
      exact missV_nn c0 hn hD n0 hk
    · refine ⟨by simp only; omega, by simp only [b2i]; simp; omega, by simp only [b2i]; simp; omega, ?_⟩
      simp only [moveV, if_true]
      exact hitV_nn c0 h0 hD n0 (by omega)

def worth (A : Int) (s : KS) : Int := if s.out = true then A * 1048576 else s.c
theorem worth_nn {D A : Int} {s : KS} (hA : 0 ≤ A) (h : Run D s) : 0 ≤ worth A s := by
  unfold worth; split
  · exact Int.mul_nonneg hA (by omega)
  · exact h.c0
theorem worth_step {D A : Int} {s : KS} (k : Nat) (x : Bool) (ho : s.out = false) : worth A (KS.step D A x k s) ≤ moveV x D s.n s.h k s.c := by
  unfold worth KS.step
  simp only [ho, Bool.false_eq_true, if_false, decide_eq_true_eq]
  split
  · assumption
  · exact Int.le_refl _
theorem worth_out {D A : Int} {s : KS} (k : Nat) (x : Bool) (ho : s.out = true) : KS.step D A x k s = s := by
  unfold KS.step; rw [if_pos ho]

theorem worth_fair {D A : Int} {s : KS} {k : Nat} (hk : (k : Int) ≤ D) (h : Run D s) :
    (D - k) * worth A (KS.step D A false k s) + k * worth A (KS.step D A true k s) ≤ D * worth A s := by
  cases ho : s.out
  · have e1 := worth_step (D := D) (A := A) k false ho
    have e2 := worth_step (D := D) (A := A) k true ho
    have e3 := fair (D := D) (n := s.n) (h := s.h) (k := k) (c := s.c) (by omega) hk h.n0
    have e4 : worth A s = s.c := by unfold worth; rw [if_neg (by simp [ho])]
    simp only [moveV, Bool.false_eq_true, if_false, if_true] at e1 e2
    have f1 := Int.mul_le_mul_of_nonneg_left e1 (show 0 ≤ D - k by omega)
    have f2 := Int.mul_le_mul_of_nonneg_left e2 (show (0 : Int) ≤ k by omega)
    rw [e4]; omega
  · rw [worth_out k false ho, worth_out k true ho, ← Int.add_mul, show D - (k : Int) + k = D by omega]
    exact Int.le_refl _

theorem worth_sum {D A : Int} {k : Nat} (hD : 0 ≤ D) (hk : (k : Int) ≤ D) : ∀ (m : Nat) (s : KS), Run D s →
    sumL m (fun l => wT D k l * worth A (run1 D A k l s)) ≤ pw D m * worth A s
  | 0, s, h => by simp [sumL, wT, run1, pw]
  | m + 1, s, h => by
    have i1 := worth_sum (A := A) hD hk m _ (h.step hD hk false (A := A))
    have i2 := worth_sum (A := A) hD hk m _ (h.step hD hk true (A := A))
    have e3 := worth_fair (A := A) hk h
    have hp : 0 ≤ pw D m := by
      rcases Int.lt_or_eq_of_le hD with h1 | h1
      · have := pw_pos (D := D) (by omega) m; omega
      · subst h1
        cases m
        · simp [pw]
        · simp [pw]
    rw [sumL, pw]
    simp only [wT, run1, Bool.false_eq_true, if_false, if_true, Int.mul_assoc]
    rw [sumL_mul, sumL_mul]
    generalize sumL m (fun l => wT D k l * worth A (run1 D A k l (KS.step D A false k s))) = x at *
    generalize sumL m (fun l => wT D k l * worth A (run1 D A k l (KS.step D A true k s))) = y at *
    generalize worth A (KS.step D A false k s) = u at *
    generalize worth A (KS.step D A true k s) = v at *
    have f1 := Int.mul_le_mul_of_nonneg_left i1 (show 0 ≤ D - k by omega)
    have f2 := Int.mul_le_mul_of_nonneg_left i2 (show (0 : Int) ≤ k by omega)
    have f3 := Int.mul_le_mul_of_nonneg_left e3 hp
    have g1 : (D - k) * (pw D m * u) + k * (pw D m * v) = pw D m * ((D - k) * u + k * v) := by
      rw [Int.mul_add, Int.mul_left_comm, Int.mul_left_comm (k : Int)]
    have g2 : pw D m * (D * worth A s) = D * (pw D m * worth A s) := Int.mul_left_comm _ _ _
    omega

def wOf (D : Int) (k : Nat) (t : List Bool → Bool) (l : List Bool) : Int := if t l = true then wT D k l else 0
theorem sure {D A : Int} {k : Nat} (hD : 0 ≤ D) (hk : (k : Int) ≤ D) (hA : 0 ≤ A) (m : Nat) (s : KS) (h : Run D s) (t : List Bool → Bool) (ht : ∀ l, t l = true → (run1 D A k l s).out = true) (hs : worth A s ≤ 1048576) :
    A * sumL m (wOf D k t) ≤ pw D m := by
  have e1 := worth_sum (A := A) hD hk m s h
  have hrun : ∀ (l : List Bool) (s : KS), Run D s → Run D (run1 D A k l s) := by
    intro l
    induction l with
    | nil => exact fun s h => h
    | cons x l ih => exact fun s h => ih _ (h.step hD hk x)
  have e2 : sumL m (fun l => (A * 1048576) * wOf D k t l) ≤ sumL m (fun l => wT D k l * worth A (run1 D A k l s)) := by
    apply sumL_le
    intro l _
    have w0 := wT_nn (D := D) (k := k) (by omega) hk l
    unfold wOf
    split
    · rename_i hl
      have : worth A (run1 D A k l s) = A * 1048576 := by unfold worth; rw [if_pos (ht l hl)]
      rw [this, Int.mul_comm]; exact Int.le_refl _
    · rw [Int.mul_zero]
      exact Int.mul_nonneg w0 (worth_nn hA (hrun l s h))
  rw [sumL_mul] at e2
  have hp : 0 ≤ pw D m := by
    rw [← sumL_w D k m]
    have := sumL_le m (fun _ => 0) (wT D k) (fun l _ => wT_nn (by omega) hk l)
    have z := sumL_mul 0 m (wT D k)
    simp at z
    omega
  have e3 := Int.mul_le_mul_of_nonneg_left hs hp
  generalize sumL m (wOf D k t) = S at *
  have e4 : A * 1048576 * S = 1048576 * (A * S) := by rw [Int.mul_comm A, Int.mul_assoc]
  omega
theorem run_start (D : Int) (k : Nat) : Run D (Cn.start k) := ⟨by simp [Cn.start], by simp [Cn.start], by simp [Cn.start], by simp [Cn.start]⟩
theorem worth_start (A : Int) (k : Nat) : worth A (Cn.start k) ≤ 1048576 := by simp [worth, Cn.start]
end Go.Proofs.Yteigcddmbpfahaa.Pure
end
section
namespace Go.Proofs.Yteigcddmbpfahaa.Pure
open Go.RowKit Go.Proofs.Yteigcddmbpfahaa.Pa Go.Proofs.YteigcddmbpfahaaW.PrintWords Go.Proofs.YteigcddmbpfahaaW.PrintLast Go.Proofs.YteigcddmbpfahaaW.PrintMore
open Go.Proofs.Yteigcddmbpfahaa.Cn
theorem pw_le {D E : Int} (h0 : 1 ≤ D) (h : D ≤ E) : ∀ n, pw D n ≤ pw E n
  | 0 => Int.le_refl _
  | n + 1 => by
    have := pw_pos h0 n
    exact mul_le_nn h (pw_le h0 h n) (by omega) (by omega)
theorem pw_up {D : Int} (h0 : 1 ≤ D) {m : Nat} : ∀ n, m ≤ n → pw D m ≤ pw D n := by
  intro n hn
  induction n with
  | zero => obtain rfl : m = 0 := by omega
            exact Int.le_refl _
  | succ n ih =>
    rcases Nat.lt_or_ge m (n + 1) with h1 | h1
    · have := ih (by omega)
      have hp := pw_pos h0 n
      have := mul_le_nn h0 (Int.le_refl (pw D n)) (by omega) (by omega)
      rw [pw]; omega
    · obtain rfl : m = n + 1 := by omega
      exact Int.le_refl _
theorem pw_small {D : Int} {n : Nat} (h0 : 1 ≤ D) (h : D ≤ 40) (hn : n ≤ 9) : pw D n ≤ 262144000000000 := by
  have h1 := pw_up h0 9 hn
  have h2 := pw_le h0 h 9
  have h3 : pw 40 9 = 262144000000000 := by decide
  omega
end Go.Proofs.Yteigcddmbpfahaa.Pure
end
section
end
section
end
section
namespace Go.Proofs.Yteigcddmbpfahaa.Pure
set_option linter.unusedVariables false
open Go.RowKit Go.Proofs.Yteigcddmbpfahaa.Pa Go.Proofs.YteigcddmbpfahaaW.PrintWords Go.Proofs.YteigcddmbpfahaaW.PrintLast Go.Proofs.YteigcddmbpfahaaW.PrintMore
open Go.Proofs.Yteigcddmbpfahaa.Cn
theorem allL_spec (S : Nat → KS) : ∀ (ks : List Nat) (n : Int), 0 ≤ n → ((allL S ks n).2 = false ∧ ∃ k ∈ ks, (S k).out = false) ∨
    ((allL S ks n).2 = true ∧ (∀ k ∈ ks, (S k).out = true) ∧ ∀ b, (allL S ks n).1 ≤ b ↔ (n ≤ b ∧ ∀ k ∈ ks, (S k).at_ ≤ b))
  | [], n, h => Or.inr ⟨rfl, fun k hk => by simp at hk, fun b => by simp [allL]⟩
  | k :: ks, n, h => by
    rw [allL]
    cases ho : (S k).out
    · rw [if_neg (by simp)]
      exact Or.inl ⟨rfl, k, List.mem_cons_self .., ho⟩
    · rw [if_pos rfl]
      rcases allL_spec S ks (max n (S k).at_) (by omega) with ⟨h1, u, hu, h2⟩ | ⟨h1, h2, h3⟩
      · exact Or.inl ⟨h1, u, List.mem_cons_of_mem _ hu, h2⟩
      · refine Or.inr ⟨h1, fun u hu => ?_, fun b => ?_⟩
        · rcases List.mem_cons.1 hu with rfl | hu
          · exact ho
          · exact h2 u hu
        · rw [h3 b]
          constructor
          · rintro ⟨g1, g2⟩
            refine ⟨by omega, fun u hu => ?_⟩
            rcases List.mem_cons.1 hu with rfl | hu
            · omega
            · exact g2 u hu
          · rintro ⟨g1, g2⟩
            have := g2 k (List.mem_cons_self ..)
            exact ⟨by omega, fun u hu => g2 u (List.mem_cons_of_mem _ hu)⟩
theorem allV_mem {low high k : Nat} : k ∈ List.range' low (high + 1 - low) ↔ low ≤ k ∧ k ≤ high := by
  rw [List.mem_range'_1]; omega

def rightT (D lo hi : Nat) (A : Int) (r : Nat) (l : List Bool) : Bool :=
  (decide (hi ≤ r) && (decideS (runS D A l Cn.start) D lo hi).1 == 2) || (decide (r ≤ lo) && (decideS (runS D A l Cn.start) D lo hi).1 == 3)
theorem right_out {D lo hi r : Nat} {A : Int} (hr : r ≤ D) (l : List Bool) (h : rightT D lo hi A r l = true) : (run1 D A r l (Cn.start r)).out = true := by
  have h1 := allL_spec (runS D A l Cn.start) (List.range' hi (D + 1 - hi)) 0 (by omega)
  have h2 := allL_spec (runS D A l Cn.start) (List.range' 0 (lo + 1 - 0)) 0 (by omega)
  have e1 : (allL (runS D A l Cn.start) (List.range' hi (D + 1 - hi)) 0) = allV (runS D A l Cn.start) hi D := rfl
  have e2 : (allL (runS D A l Cn.start) (List.range' 0 (lo + 1 - 0)) 0) = allV (runS D A l Cn.start) 0 lo := rfl
  rw [e1] at h1
  rw [e2] at h2
  rw [← runS_1]
  rw [rightT, Bool.or_eq_true, Bool.and_eq_true, Bool.and_eq_true, decide_eq_true_eq, decide_eq_true_eq, beq_iff_eq, beq_iff_eq] at h
  unfold decideS decideV at h
  rcases h with ⟨g1, g2⟩ | ⟨g1, g2⟩
  · have hb : (allV (runS D A l Cn.start) hi D).2 = true := by
      split at g2
      · rename_i c; exact c.1
      · split at g2 <;> simp at g2
    rcases h1 with ⟨c, _⟩ | ⟨_, c, _⟩
    · rw [c] at hb; cases hb
    · exact c r (allV_mem.2 ⟨g1, hr⟩)
  · have ha : (allV (runS D A l Cn.start) 0 lo).2 = true := by
      split at g2
      · simp at g2
      · split at g2
        · assumption
        · simp at g2
    rcases h2 with ⟨c, _⟩ | ⟨_, c, _⟩
    · rw [c] at ha; cases ha
    · exact c r (allV_mem.2 ⟨Nat.zero_le _, g1⟩)
end Go.Proofs.Yteigcddmbpfahaa.Pure
end
