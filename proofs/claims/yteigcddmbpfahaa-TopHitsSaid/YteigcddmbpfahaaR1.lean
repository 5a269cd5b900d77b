/- Texts of one claim joined into one: words and contracts. -/
import Derived.Test.YteigcddmbpfahaaPax6
import Derived.Test.YteigcddmbpfahaaC3
section
namespace Go.Proofs.Yteigcddmbpfahaa.Pure
open Go.RowKit Go.Proofs.Yteigcddmbpfahaa.Pa Go.Proofs.YteigcddmbpfahaaW.PrintWords Go.Proofs.YteigcddmbpfahaaW.PrintLast Go.Proofs.YteigcddmbpfahaaW.PrintMore
open Go.Proofs.Yteigcddmbpfahaa.Cn
def pw (D : Int) : Nat → Int
  | 0 => 1
  | i + 1 => D * pw D i
theorem pw_pos {D : Int} (h : 1 ≤ D) : ∀ i, 1 ≤ pw D i
  | 0 => by simp [pw]
  | i + 1 => by
    have := pw_pos h i
    rw [pw]
    have := Int.mul_le_mul h this (by omega) (by omega)
    simpa using this
def wT (D k : Int) : List Bool → Int
  | [] => 1
  | x :: l => (if x then k else D - k) * wT D k l
theorem wT_nn {D k : Int} (hk : 0 ≤ k) (hk2 : k ≤ D) : ∀ l, 0 ≤ wT D k l
  | [] => by simp [wT]
  | x :: l => by
    rw [wT]
    exact Int.mul_nonneg (by split <;> omega) (wT_nn hk hk2 l)
theorem wV_T {D k : Int} (hk : 0 ≤ k) (hk2 : k ≤ D) (hD : 1 ≤ D) (hD2 : D ≤ 9000) : ∀ (l : List Bool) (n : Int), 0 ≤ n → n * pw D l.length ≤ 9000000000000000000 → wV D k l n = n * wT D k l
  | [], n, _, _ => by simp [wV, wT]
  | x :: l, n, hn, hb => by
    have hp := pw_pos hD l.length
    rw [List.length_cons, pw, ← Int.mul_assoc] at hb
    have h1 : n * D ≤ 9000000000000000000 := by
      refine Int.le_trans ?_ hb
      have := Int.mul_le_mul_of_nonneg_left hp (show 0 ≤ n * D from Int.mul_nonneg hn (by omega))
      simpa using this
    have key : ∀ f : Int, 0 ≤ f → f ≤ D → wV D k l (wrap64 (n * f)) = n * (f * wT D k l) := by
      intro f f0 f1
      have g0 : 0 ≤ n * f := Int.mul_nonneg hn f0
      have g1 : n * f ≤ n * D := Int.mul_le_mul_of_nonneg_left f1 hn
      rw [wrap_id (by omega) (by omega), wV_T hk hk2 hD hD2 l (n * f) g0 (Int.le_trans (Int.mul_le_mul_of_nonneg_right g1 (by omega)) hb), Int.mul_assoc]
    rw [wV, wT]
    cases x
    · simp only [Bool.false_eq_true, if_false]
      rw [wrap_id (x := D - k) (by omega) (by omega)]
      exact key _ (by omega) (by omega)
    · simp only [if_true]
      exact key _ hk hk2
end Go.Proofs.Yteigcddmbpfahaa.Pure
end
section
namespace Go.Proofs.Yteigcddmbpfahaa.Pure
open Go.RowKit Go.Proofs.Yteigcddmbpfahaa.Pa Go.Proofs.YteigcddmbpfahaaW.PrintWords Go.Proofs.YteigcddmbpfahaaW.PrintLast Go.Proofs.YteigcddmbpfahaaW.PrintMore
open Go.Proofs.Yteigcddmbpfahaa.Cn
def sumN (f : Nat → Int) : Nat → Int
  | 0 => 0
  | b + 1 => sumN f b + f b
theorem sumN_congr {f g : Nat → Int} : ∀ n, (∀ b, b < n → f b = g b) → sumN f n = sumN g n
  | 0, _ => rfl
  | n + 1, h => by rw [sumN, sumN, sumN_congr n (fun b hb => h b (by omega)), h n (by omega)]
theorem sumN_nn {f : Nat → Int} : ∀ n, (∀ b, b < n → 0 ≤ f b) → 0 ≤ sumN f n
  | 0, _ => by simp [sumN]
  | n + 1, h => by
    have := sumN_nn n (fun b hb => h b (by omega))
    have := h n (by omega)
    rw [sumN]; omega
theorem sumN_up {f : Nat → Int} (h : ∀ b, 0 ≤ f b) {m : Nat} : ∀ n, m ≤ n → sumN f m ≤ sumN f n := by
  intro n hn
  induction n with
  | zero => obtain rfl : m = 0 := by omega
            exact Int.le_refl _
  | succ n ih =>
    rcases Nat.lt_or_ge m (n + 1) with h1 | h1
    · have := ih (by omega)
      have := h n
      rw [sumN]; omega
    · obtain rfl : m = n + 1 := by omega
      exact Int.le_refl _
theorem sumN_add (f g : Nat → Int) : ∀ n, sumN (fun b => f b + g b) n = sumN f n + sumN g n
  | 0 => rfl
  | n + 1 => by rw [sumN, sumN, sumN, sumN_add f g n]; omega
theorem sumN_two (f : Nat → Int) : ∀ m, sumN f (2 * m) = sumN (fun b => f (2 * b) + f (2 * b + 1)) m
  | 0 => rfl
  | m + 1 => by
    rw [show 2 * (m + 1) = 2 * m + 1 + 1 by omega, sumN, sumN, sumN_two f m, sumN]; omega

def sumL : Nat → (List Bool → Int) → Int
  | 0, F => F []
  | n + 1, F => sumL n (fun l => F (false :: l)) + sumL n (fun l => F (true :: l))
theorem outL_succ (n b : Nat) : outL (n + 1) b = b.testBit 0 :: outL n (b / 2) := by
  simp only [outL, List.range_succ_eq_map, List.map_cons, List.map_map]
  congr 1
  apply List.map_congr_left
  intro i _
  simp [Nat.testBit_succ]
theorem sumL_mul (c : Int) : ∀ (n : Nat) (F : List Bool → Int), sumL n (fun l => c * F l) = c * sumL n F
  | 0, _ => rfl
  | n + 1, F => by rw [sumL, sumL, sumL_mul c n, sumL_mul c n, Int.mul_add]
theorem sumL_le : ∀ (n : Nat) (F G : List Bool → Int), (∀ l, l.length = n → F l ≤ G l) → sumL n F ≤ sumL n G
  | 0, _, _, h => h [] rfl
  | n + 1, F, G, h => by
    have h1 := sumL_le n (fun l => F (false :: l)) (fun l => G (false :: l)) (fun l e => h _ (by simp [e]))
    have h2 := sumL_le n (fun l => F (true :: l)) (fun l => G (true :: l)) (fun l e => h _ (by simp [e]))
    rw [sumL, sumL]; omega
theorem sumL_congr (n : Nat) (F G : List Bool → Int) (h : ∀ l, l.length = n → F l = G l) : sumL n F = sumL n G :=
  Int.le_antisymm (sumL_le n F G (fun l e => Int.le_of_eq (h l e))) (sumL_le n G F (fun l e => Int.le_of_eq (h l e).symm))
theorem sumN_L : ∀ (n : Nat) (F : List Bool → Int), sumN (fun b => F (outL n b)) (2 ^ n) = sumL n F
  | 0, F => by simp [sumN, sumL, outL]
  | n + 1, F => by
    rw [Nat.pow_succ, Nat.mul_comm, sumN_two, sumL, ← sumN_L n, ← sumN_L n, ← sumN_add]
    apply sumN_congr
    intro b _
    rw [outL_succ, outL_succ]
    have e1 : (2 * b).testBit 0 = false := by simp
    have e2 : (2 * b + 1).testBit 0 = true := by simp
    have e3 : (2 * b + 1) / 2 = b := by omega
    have e4 : (2 * b) / 2 = b := by omega
    rw [e1, e2, e3, e4]
theorem sumL_w (D k : Int) : ∀ n, sumL n (wT D k) = pw D n
  | 0 => rfl
  | n + 1 => by
    rw [sumL, pw]
    simp only [wT, Bool.false_eq_true, if_false, if_true]
    rw [sumL_mul, sumL_mul, sumL_w D k n, ← Int.add_mul]
    congr 1; omega

theorem wholeL_T {D : Int} (hD : 1 ≤ D) : ∀ (i : Nat) (n : Int), 0 ≤ n → n ≤ 1152921504606846976 → (wholeL D i n).2 = 0 → (wholeL D i n).1 = n * pw D i ∧ n * pw D i ≤ 1152921504606846976
  | 0, n, h0, h1, _ => by simp [wholeL, pw]; omega
  | i + 1, n, h0, h1, h => by
    rw [wholeL] at h ⊢
    split at h
    · exact absurd h (by decide)
    · rename_i hq
      rw [if_neg hq]
      have hm : n * D ≤ 1152921504606846976 := Int.mul_le_of_le_ediv (show 0 < D by omega) (by omega)
      have := wholeL_T hD i (n * D) (Int.mul_nonneg h0 (by omega)) hm h
      rw [pw, ← Int.mul_assoc]
      exact this
theorem wholeL_N {D : Int} (hD : 1 ≤ D) : ∀ (i : Nat) (n : Int), 0 ≤ n → n * pw D i ≤ 1152921504606846976 → (wholeL D i n).2 = 0
  | 0, n, _, _ => rfl
  | i + 1, n, h0, h => by
    rw [pw, ← Int.mul_assoc] at h
    have hp := pw_pos hD i
    have h0' : 0 ≤ n * D := Int.mul_nonneg h0 (by omega)
    have hm : n * D ≤ 1152921504606846976 := by
      refine Int.le_trans ?_ h
      have := Int.mul_le_mul_of_nonneg_left hp h0'
      simpa using this
    have : n ≤ 1152921504606846976 / D := Int.le_ediv_of_mul_le (by omega) hm
    rw [wholeL, if_neg (by omega)]
    exact wholeL_N hD i (n * D) h0' h
theorem whole_T {s : Nat} {D : Int} (h : (wholeV s D).2 = 0) : (wholeV s D).1 = pw D s ∧ pw D s ≤ 1152921504606846976 := by
  obtain ⟨h1, h2, h3, h4⟩ := wholeV_ok h
  rw [wholeV, if_neg (by omega), if_neg (by omega), Int.toNat_natCast] at h ⊢
  have := wholeL_T (D := D) (by omega) s 1 (by omega) (by omega) h
  simpa using this
end Go.Proofs.Yteigcddmbpfahaa.Pure
end
section
namespace Go.Proofs.Yteigcddmbpfahaa.Pure
open Go.RowKit Go.Proofs.Yteigcddmbpfahaa.Pa Go.Proofs.YteigcddmbpfahaaW.PrintWords Go.Proofs.YteigcddmbpfahaaW.PrintLast Go.Proofs.YteigcddmbpfahaaW.PrintMore
open Go.Proofs.Yteigcddmbpfahaa.Cn
def run1 (D A : Int) (k : Nat) : List Bool → KS → KS
  | [], s => s
  | x :: l, s => run1 D A k l (KS.step D A x k s)
theorem runS_1 (D A : Int) (k : Nat) : ∀ (l : List Bool) (S : Nat → KS), runS D A l S k = run1 D A k l (S k)
  | [], _ => rfl
  | x :: l, S => by rw [runS, run1, runS_1 D A k l]; rfl

structure Run (D : Int) (s : KS) : Prop where
  n0 : 0 ≤ s.n
  h0 : 0 ≤ s.h
  hn : s.h ≤ s.n
  c0 : 0 ≤ s.c
theorem Run.step {D A : Int} {s : KS} (hD : 0 ≤ D) {k : Nat} (hk : (k : Int) ≤ D) (x : Bool) (h : Run D s) : Run D (KS.step D A x k s) := by
  obtain ⟨n0, h0, hn, c0⟩ := h
  unfold KS.step
  split
  · exact ⟨n0, h0, hn, c0⟩
  · cases x
    · refine ⟨by simp only; omega, by simp only [b2i]; simp; omega, by simp only [b2i]; simp; omega, ?_⟩
      simp only [moveV, Bool.false_eq_true, if_false]
      exact missV_nn c0 hn hD n0 hk
    · refine ⟨by simp only; omega, by simp only [b2i]; simp; omega, by simp only [b2i]; simp; omega, ?_⟩
      simp only [moveV, if_true]
      exact hitV_nn c0 h0 hD n0 (by omega)

end Go.Proofs.Yteigcddmbpfahaa.Pure
end
section
end
section
end
section
end
section
namespace Go.Proofs.Yteigcddmbpfahaa.Pure
set_option linter.unusedVariables false
open Go.RowKit Go.Proofs.Yteigcddmbpfahaa.Pa Go.Proofs.YteigcddmbpfahaaW.PrintWords Go.Proofs.YteigcddmbpfahaaW.PrintLast Go.Proofs.YteigcddmbpfahaaW.PrintMore
open Go.Proofs.Yteigcddmbpfahaa.Cn
theorem allL_spec (S : Nat → KS) : ∀ (ks : List Nat) (n : Int), 0 ≤ n → ((allL S ks n).2 = false ∧ ∃ k ∈ ks, (S k).out = false) ∨
    ((allL S ks n).2 = true ∧ (∀ k ∈ ks, (S k).out = true) ∧ ∀ b, (allL S ks n).1 ≤ b ↔ (n ≤ b ∧ ∀ k ∈ ks, (S k).at_ ≤ b))
  | [], n, h => Or.inr ⟨rfl, fun k hk => by simp at hk, fun b => by simp [allL]⟩
  | k :: ks, n, h => by
    rw [allL]
    cases ho : (S k).out
    · rw [if_neg (by simp)]
      exact Or.inl ⟨rfl, k, List.mem_cons_self .., ho⟩
    · rw [if_pos rfl]
      rcases allL_spec S ks (max n (S k).at_) (by omega) with ⟨h1, u, hu, h2⟩ | ⟨h1, h2, h3⟩
      · exact Or.inl ⟨h1, u, List.mem_cons_of_mem _ hu, h2⟩
      · refine Or.inr ⟨h1, fun u hu => ?_, fun b => ?_⟩
        · rcases List.mem_cons.1 hu with rfl | hu
          · exact ho
          · exact h2 u hu
        · rw [h3 b]
          constructor
          · rintro ⟨g1, g2⟩
            refine ⟨by omega, fun u hu => ?_⟩
            rcases List.mem_cons.1 hu with rfl | hu
            · omega
            · exact g2 u hu
          · rintro ⟨g1, g2⟩
            have := g2 k (List.mem_cons_self ..)
            exact ⟨by omega, fun u hu => g2 u (List.mem_cons_of_mem _ hu)⟩
theorem allV_mem {low high k : Nat} : k ∈ List.range' low (high + 1 - low) ↔ low ≤ k ∧ k ≤ high := by
  rw [List.mem_range'_1]; omega

def rightT (D lo hi : Nat) (A : Int) (r : Nat) (l : List Bool) : Bool :=
  (decide (hi ≤ r) && (decideS (runS D A l Cn.start) D lo hi).1 == 2) || (decide (r ≤ lo) && (decideS (runS D A l Cn.start) D lo hi).1 == 3)
theorem right_out {D lo hi r : Nat} {A : Int} (hr : r ≤ D) (l : List Bool) (h : rightT D lo hi A r l = true) : (run1 D A r l (Cn.start r)).out = true := by
  have h1 := allL_spec (runS D A l Cn.start) (List.range' hi (D + 1 - hi)) 0 (by omega)
  have h2 := allL_spec (runS D A l Cn.start) (List.range' 0 (lo + 1 - 0)) 0 (by omega)
  have e1 : (allL (runS D A l Cn.start) (List.range' hi (D + 1 - hi)) 0) = allV (runS D A l Cn.start) hi D := rfl
  have e2 : (allL (runS D A l Cn.start) (List.range' 0 (lo + 1 - 0)) 0) = allV (runS D A l Cn.start) 0 lo := rfl
  rw [e1] at h1
  rw [e2] at h2
  rw [← runS_1]
  rw [rightT, Bool.or_eq_true, Bool.and_eq_true, Bool.and_eq_true, decide_eq_true_eq, decide_eq_true_eq, beq_iff_eq, beq_iff_eq] at h
  unfold decideS decideV at h
  rcases h with ⟨g1, g2⟩ | ⟨g1, g2⟩
  · have hb : (allV (runS D A l Cn.start) hi D).2 = true := by
      split at g2
      · rename_i c; exact c.1
      · split at g2 <;> simp at g2
    rcases h1 with ⟨c, _⟩ | ⟨_, c, _⟩
    · rw [c] at hb; cases hb
    · exact c r (allV_mem.2 ⟨g1, hr⟩)
  · have ha : (allV (runS D A l Cn.start) 0 lo).2 = true := by
      split at g2
      · simp at g2
      · split at g2
        · assumption
        · simp at g2
    rcases h2 with ⟨c, _⟩ | ⟨_, c, _⟩
    · rw [c] at ha; cases ha
    · exact c r (allV_mem.2 ⟨Nat.zero_le _, g1⟩)
end Go.Proofs.Yteigcddmbpfahaa.Pure
end
