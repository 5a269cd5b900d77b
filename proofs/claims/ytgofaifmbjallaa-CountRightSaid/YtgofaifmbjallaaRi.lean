import Derived.Test.YtgofaifmbjallaaYe
import Derived.Test.YtgofaifmbjallaaRc
/-! Verdicts: who tells one wrongly has little weight; one that was decided stays. -/
namespace Go.Proofs.Ytgofaifmbjallaa.Pure
set_option linter.unusedVariables false
open Go.RowKit Go.Proofs.Ytgofaifmbjallaa.Pa Go.Proofs.YtgofaifmbjallaaW.PrintWords Go.Proofs.YtgofaifmbjallaaW.PrintLast Go.Proofs.YtgofaifmbjallaaW.PrintMore
open Go.Proofs.Ytgofaifmbjallaa.Cn

theorem q1_app (D A : Int) (k : Nat) : ∀ (p q : List Bool) (s : KS), run1 D A k (p ++ q) s = run1 D A k q (run1 D A k p s)
  | [], _, _ => rfl
  | x :: p, q, s => by rw [List.cons_append, run1, run1]; exact q1_app D A k p q _
theorem q1_stays (D A : Int) (k : Nat) : ∀ (q : List Bool) (s : KS), s.out = true → run1 D A k q s = s
  | [], _, _ => rfl
  | x :: q, s, h => by rw [run1, worth_out k x h]; exact q1_stays D A k q s h
theorem q1_n (D A : Int) (k : Nat) : ∀ (p : List Bool) (s : KS), s.out = false → (run1 D A k p s).out = false → (run1 D A k p s).n = s.n + p.length
  | [], s, _, _ => by simp [run1]
  | x :: p, s, h, h2 => by
    have hs : KS.step D A x k s = ⟨s.n + 1, s.h + b2i x, moveV x D s.n s.h k s.c, decide (A * 1048576 ≤ moveV x D s.n s.h k s.c), if A * 1048576 ≤ moveV x D s.n s.h k s.c then s.n + 1 else s.at_⟩ := by
      unfold KS.step; rw [if_neg (by simp [h])]
    rw [run1] at h2 ⊢
    have ho : (KS.step D A x k s).out = false := by
      cases ho : (KS.step D A x k s).out
      · rfl
      · rw [q1_stays D A k p _ ho, ho] at h2; cases h2
    rw [q1_n D A k p _ ho h2, hs]
    simp only [List.length_cons]
    omega
/-- an excluded rate's time lies within the slots -/
theorem at_bd {D A : Int} {k : Nat} {x : List Bool} (h : (run1 D A k x (Cn.start k)).out = true) : 1 ≤ (run1 D A k x (Cn.start k)).at_ ∧ (run1 D A k x (Cn.start k)).at_ ≤ x.length := by
  have := (timeV_nn (D := D) (A := A) (l := x) (k := k))
  unfold timeV at this
  rw [if_pos h] at this
  have h1 := of_decide_eq_true (this.1.symm.trans h)
  omega
/-- a rate that is excluded later has a later time -/
theorem at_later {D A : Int} {k : Nat} {x y : List Bool} (h0 : (run1 D A k x (Cn.start k)).out = false) (h1 : (run1 D A k (x ++ y) (Cn.start k)).out = true) : (x.length : Int) < (run1 D A k (x ++ y) (Cn.start k)).at_ := by
  have hn := q1_n D A k x (Cn.start k) rfl h0
  have h := run_excl (D := D) (A := A) (k := k) y (run1 D A k x (Cn.start k)) h0 (by rw [hn]; simp [Cn.start])
  rw [← q1_app] at h
  have hg := exL_ge (A * 1048576) (cls D k y (run1 D A k x (Cn.start k)).n (run1 D A k x (Cn.start k)).h (run1 D A k x (Cn.start k)).c) ((run1 D A k x (Cn.start k)).n + 1) (by rw [hn]; simp [Cn.start]; omega)
  rw [h.2 h1]
  have h2 := of_decide_eq_true (h.1.symm.trans h1)
  rw [hn] at hg h2 ⊢
  simp only [Cn.start, Int.zero_add] at hg h2 ⊢
  omega

theorem allL_spec (S : Nat → KS) : ∀ (ks : List Nat) (n : Int), 0 ≤ n → ((allL S ks n).2 = false ∧ ∃ k ∈ ks, (S k).out = false) ∨
    ((allL S ks n).2 = true ∧ (∀ k ∈ ks, (S k).out = true) ∧ ∀ b, (allL S ks n).1 ≤ b ↔ (n ≤ b ∧ ∀ k ∈ ks, (S k).at_ ≤ b))
  | [], n, h => Or.inr ⟨rfl, fun k hk => by simp at hk, fun b => by simp [allL]⟩
  | k :: ks, n, h => by
    rw [allL]
    cases ho : (S k).out
    · rw [if_neg (by simp)]
      exact Or.inl ⟨rfl, k, List.mem_cons_self .., ho⟩
    · rw [if_pos rfl]
      rcases allL_spec S ks (max n (S k).at_) (by omega) with ⟨h1, u, hu, h2⟩ | ⟨h1, h2, h3⟩
      · exact Or.inl ⟨h1, u, List.mem_cons_of_mem _ hu, h2⟩
      · refine Or.inr ⟨h1, fun u hu => ?_, fun b => ?_⟩
        · rcases List.mem_cons.1 hu with rfl | hu
          · exact ho
          · exact h2 u hu
        · rw [h3 b]
          constructor
          · rintro ⟨g1, g2⟩
            refine ⟨by omega, fun u hu => ?_⟩
            rcases List.mem_cons.1 hu with rfl | hu
            · omega
            · exact g2 u hu
          · rintro ⟨g1, g2⟩
            have := g2 k (List.mem_cons_self ..)
            exact ⟨by omega, fun u hu => g2 u (List.mem_cons_of_mem _ hu)⟩
theorem allL_congr {S T : Nat → KS} : ∀ (ks : List Nat) (n : Int), (∀ k ∈ ks, S k = T k) → allL S ks n = allL T ks n
  | [], _, _ => rfl
  | k :: ks, n, h => by
    rw [allL, allL, h k (List.mem_cons_self ..)]
    split
    · exact allL_congr ks _ (fun u hu => h u (List.mem_cons_of_mem _ hu))
    · rfl
theorem allV_mem {low high k : Nat} : k ∈ List.range' low (high + 1 - low) ↔ low ≤ k ∧ k ≤ high := by
  rw [List.mem_range'_1]; omega

/-- all rates of a range, after some slots and after more of them -/
theorem allV_more {D A : Int} {low high : Nat} (x y : List Bool) (hlh : low ≤ high) :
    ((allV (runS D A x Cn.start) low high).2 = true → allV (runS D A (x ++ y) Cn.start) low high = allV (runS D A x Cn.start) low high ∧ 1 ≤ (allV (runS D A x Cn.start) low high).1 ∧ (allV (runS D A x Cn.start) low high).1 ≤ x.length) ∧
    ((allV (runS D A x Cn.start) low high).2 = false → (allV (runS D A (x ++ y) Cn.start) low high).2 = true → (x.length : Int) < (allV (runS D A (x ++ y) Cn.start) low high).1) := by
  have h1 := allL_spec (runS D A x Cn.start) (List.range' low (high + 1 - low)) 0 (by omega)
  have h2 := allL_spec (runS D A (x ++ y) Cn.start) (List.range' low (high + 1 - low)) 0 (by omega)
  unfold allV
  constructor
  · intro ht
    rcases h1 with ⟨g, _⟩ | ⟨_, g1, g2⟩
    · rw [g] at ht; cases ht
    · refine ⟨allL_congr _ _ (fun k hk => ?_), ?_, ?_⟩
      · have := g1 k hk
        rw [runS_1] at this
        rw [runS_1, runS_1, q1_app, q1_stays _ _ _ _ _ this]
      · have hm := allV_mem (low := low) (high := high) (k := low)
        have ho := g1 low (hm.2 ⟨Nat.le_refl _, hlh⟩)
        have hat := ((g2 _).1 (Int.le_refl _)).2 low (hm.2 ⟨Nat.le_refl _, hlh⟩)
        rw [runS_1] at ho hat
        have := (at_bd ho).1
        omega
      · refine (g2 _).2 ⟨by omega, fun k hk => ?_⟩
        have ho := g1 k hk
        rw [runS_1] at ho ⊢
        exact (at_bd ho).2
  · intro hf ht
    rcases h1 with ⟨_, k, hk, ho⟩ | ⟨g, _⟩
    · rcases h2 with ⟨g, _⟩ | ⟨_, g1, g2⟩
      · rw [g] at ht; cases ht
      · have ho2 := g1 k hk
        have hat := ((g2 _).1 (Int.le_refl _)).2 k hk
        rw [runS_1] at ho ho2 hat
        have := at_later ho ho2
        omega
    · rw [g] at hf; cases hf

/-- a verdict that was decided stays -/
theorem decide_stays {D lo hi : Nat} {A : Int} (x y : List Bool) (hhi : hi ≤ D) (hv : (decideS (runS D A x Cn.start) D lo hi).1 ≠ 1) : decideS (runS D A (x ++ y) Cn.start) D lo hi = decideS (runS D A x Cn.start) D lo hi := by
  have hB := allV_more (D := (D : Int)) (A := A) (low := hi) (high := D) x y hhi
  have hA := allV_more (D := (D : Int)) (A := A) (low := 0) (high := lo) x y (Nat.zero_le _)
  unfold decideS at *
  generalize allV (runS D A x Cn.start) hi D = p at *
  generalize allV (runS D A x Cn.start) 0 lo = q at *
  generalize allV (runS D A (x ++ y) Cn.start) hi D = p' at *
  generalize allV (runS D A (x ++ y) Cn.start) 0 lo = q' at *
  obtain ⟨u, b⟩ := p
  obtain ⟨o, a⟩ := q
  obtain ⟨u', b'⟩ := p'
  obtain ⟨o', a'⟩ := q'
  unfold decideV at *
  cases b <;> cases a <;> cases b' <;> cases a' <;> simp_all <;> omega
/-- when it was decided -/
theorem decide_bd {D lo hi : Nat} {A : Int} (x : List Bool) (hhi : hi ≤ D) : 0 ≤ (decideS (runS D A x Cn.start) D lo hi).2 ∧ (decideS (runS D A x Cn.start) D lo hi).2 ≤ x.length := by
  have hB := (allV_more (D := (D : Int)) (A := A) (low := hi) (high := D) x [] hhi).1
  have hA := (allV_more (D := (D : Int)) (A := A) (low := 0) (high := lo) x [] (Nat.zero_le _)).1
  unfold decideS decideV
  split
  · rename_i h; have := hB h.1; simp only; omega
  · split
    · rename_i h; have := hA h; simp only; omega
    · simp only; omega
/-- a wrong verdict: the true rate is excluded -/
def rightT (D lo hi : Nat) (A : Int) (r : Nat) (l : List Bool) : Bool :=
  (decide (hi ≤ r) && (decideS (runS D A l Cn.start) D lo hi).1 == 2) || (decide (r ≤ lo) && (decideS (runS D A l Cn.start) D lo hi).1 == 3)
theorem right_out {D lo hi r : Nat} {A : Int} (hr : r ≤ D) (l : List Bool) (h : rightT D lo hi A r l = true) : (run1 D A r l (Cn.start r)).out = true := by
  have h1 := allL_spec (runS D A l Cn.start) (List.range' hi (D + 1 - hi)) 0 (by omega)
  have h2 := allL_spec (runS D A l Cn.start) (List.range' 0 (lo + 1 - 0)) 0 (by omega)
  have e1 : (allL (runS D A l Cn.start) (List.range' hi (D + 1 - hi)) 0) = allV (runS D A l Cn.start) hi D := rfl
  have e2 : (allL (runS D A l Cn.start) (List.range' 0 (lo + 1 - 0)) 0) = allV (runS D A l Cn.start) 0 lo := rfl
  rw [e1] at h1
  rw [e2] at h2
  rw [← runS_1]
  rw [rightT, Bool.or_eq_true, Bool.and_eq_true, Bool.and_eq_true, decide_eq_true_eq, decide_eq_true_eq, beq_iff_eq, beq_iff_eq] at h
  unfold decideS decideV at h
  rcases h with ⟨g1, g2⟩ | ⟨g1, g2⟩
  · have hb : (allV (runS D A l Cn.start) hi D).2 = true := by
      split at g2
      · rename_i c; exact c.1
      · split at g2 <;> simp at g2
    rcases h1 with ⟨c, _⟩ | ⟨_, c, _⟩
    · rw [c] at hb; cases hb
    · exact c r (allV_mem.2 ⟨g1, hr⟩)
  · have ha : (allV (runS D A l Cn.start) 0 lo).2 = true := by
      split at g2
      · simp at g2
      · split at g2
        · assumption
        · simp at g2
    rcases h2 with ⟨c, _⟩ | ⟨_, c, _⟩
    · rw [c] at ha; cases ha
    · exact c r (allV_mem.2 ⟨Nat.zero_le _, g1⟩)
end Go.Proofs.Ytgofaifmbjallaa.Pure
