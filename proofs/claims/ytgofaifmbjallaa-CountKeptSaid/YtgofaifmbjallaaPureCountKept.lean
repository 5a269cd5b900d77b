import Derived.Test.YtgofaifmbjallaaPax14
import Derived.Test.YtgofaifmbjallaaRk
import Derived.Test.YtgofaifmbjallaaLw
import Derived.Test.YtgofaifmbjallaaKn
/-! The pure law CountKept. -/
namespace Go.Proofs.Ytgofaifmbjallaa.Pure
open Go.RowKit Go.Proofs.Ytgofaifmbjallaa.Pa Go.Proofs.YtgofaifmbjallaaW.PrintWords Go.Proofs.YtgofaifmbjallaaW.PrintLast Go.Proofs.YtgofaifmbjallaaW.PrintMore
open Go.Proofs.Ytgofaifmbjallaa.Cn

theorem sameSpans_step (L : List S65) (hL : L.length ≤ 9000) : ∀ m i k : Nat, i + m = L.length → m + 1 ≤ k → overburdenref07_SameSpans.l0 k L L i = some true := by
  intro m
  induction m with
  | zero =>
    intro i k hi hk
    obtain ⟨k, rfl⟩ : ∃ j, k = j + 1 := ⟨k - 1, by omega⟩
    rw [overburdenref07_SameSpans.l0, if_neg (by omega)]
  | succ m ih =>
    intro i k hi hk
    obtain ⟨k, rfl⟩ : ∃ j, k = j + 1 := ⟨k - 1, by omega⟩
    rw [overburdenref07_SameSpans.l0, if_pos (by omega), if_pos (by omega), if_pos (by omega), if_neg (by simp), wrap_id (by omega) (by omega)]
    exact ih (i + 1) k (by omega) (by omega)
theorem ref_sameSpans (L : List S65) (k : Nat) (hL : L.length ≤ 9000) (hk : L.length + 1 ≤ k) : overburdenref07_SameSpans.f k L L = some true := by
  rw [overburdenref07_SameSpans.f, if_pos rfl]
  exact sameSpans_step L hL L.length 0 k (by omega) hk
/-- what is excluded stays so -/
theorem run1_stays (D A : Int) (k : Nat) : ∀ (q : List Bool) (s : KS), s.out = true → (run1 D A k q s).out = true
  | [], _, h => h
  | x :: q, s, h => by rw [run1, worth_out k x h]; exact run1_stays D A k q s h
theorem run1_app (D A : Int) (k : Nat) : ∀ (p q : List Bool) (s : KS), run1 D A k (p ++ q) s = run1 D A k q (run1 D A k p s)
  | [], _, _ => rfl
  | x :: p, q, s => by rw [List.cons_append, run1, run1]; exact run1_app D A k p q _

theorem kept_j3 (l : List Bool) (D : Nat) (A : Int) (r : Nat) (K : Nat) (hK : 3000 ≤ K) (hD : 2 ≤ D) (hD2 : D ≤ 40) (hA : 2 ≤ A) (hA2 : A ≤ 900000) (hl : l.length ≤ 60) (hl1 : 0 < l.length) (hr : r ≤ D) :
    overburdenlaw07_CountKept.j3 K l D A r (spansS (runS D A l Cn.start) D) false = some true := by
  obtain ⟨K, rfl⟩ : ∃ i, K = i + 1 := ⟨K - 1, by omega⟩
  have hk := kept_ok (l := l.take (l.length - 1)) hD (by omega) (by simp; omega) hA hA2
  have e : ((l.length : Int) - 1).toNat = l.length - 1 := by omega
  have s1 := spans_le (runS D A l Cn.start) (D := D) (by omega)
  have s2 := spans_le (runS D A (l.take (l.length - 1)) Cn.start) (D := D) (by omega)
  rw [overburdenlaw07_CountKept.j3, if_neg (by simp), wrap_id (by omega) (by omega), if_pos (by omega), if_pos (by omega), e, hk]
  simp only [Option.bind_some, if_true]
  rw [law_has _ _ K (by omega) (by omega), law_has _ _ K (by omega) (by omega), hasL_spans _ hr, hasL_spans _ hr, known_true K (by omega)]
  simp only [Option.bind_some]
  split
  · rename_i h1
    rw [if_pos]
    rw [runS_1] at h1 ⊢
    cases ho : (run1 D A r (l.take (l.length - 1)) (Cn.start r)).out
    · rfl
    · have : (run1 D A r l (Cn.start r)).out = true := by
        rw [← List.take_append_drop (l.length - 1) l, run1_app]
        exact run1_stays _ _ _ _ _ ho
      rw [this] at h1; cases h1
  · rfl
theorem kept_j2 (l : List Bool) (D : Nat) (A r : Int) (K : Nat) (hK : 3001 ≤ K) (hD : 2 ≤ D) (hD2 : D ≤ 40) (hA : 2 ≤ A) (hA2 : A ≤ 900000) (hl : l.length ≤ 60) :
    overburdenlaw07_CountKept.j2 K l D A r (spansS (runS D A l Cn.start) D) false = some true := by
  obtain ⟨K, rfl⟩ : ∃ i, K = i + 2 := ⟨K - 2, by omega⟩
  have key : overburdenlaw07_CountKept.j3 (K + 1) l D A r (spansS (runS D A l Cn.start) D) true = some true := by
    rw [overburdenlaw07_CountKept.j3, if_pos rfl, known_true K (by omega)]; rfl
  rw [overburdenlaw07_CountKept.j2, if_neg (by simp)]
  split
  · exact key
  · split
    · exact key
    · by_cases h : r > D
      · rw [decide_eq_true h]; exact key
      · rw [decide_eq_false h]
        obtain ⟨r, rfl⟩ := Int.eq_ofNat_of_zero_le (show 0 ≤ r by omega)
        exact kept_j3 l D A r (K + 1) (by omega) hD hD2 hA hA2 hl (by omega) (by omega)

theorem CountKept (l : List Bool) (D A r : Int) (_ : l.length ≤ maxLen) (_ : (Lit.int .i64 D).wf = true) (_ : (Lit.int .i64 A).wf = true) (_ : (Lit.int .i64 r).wf = true) :
    ∃ k, overburdenlaw07_CountKept.f k l D A r = some true := by
  refine ⟨4000, ?_⟩
  rw [overburdenlaw07_CountKept.f, law_few, law_wrong, law_level]
  simp only [Option.bind_some]
  by_cases hf : (((l.length : Int) ≤ 60 ∨ (4000 < (l.length : Int) ∧ (l.length : Int) ≤ 4010)) ∧ (D ≤ 40 ∨ 1000 < D))
  · rw [if_pos (decide_eq_true hf)]
    -- a refusal: both say the same
    have hbadj : ∀ b : Int, b ≠ 0 → overburdenlaw07_CountKept.j1 3999 l D A r [] b b b 0 0 = some true := by
      intro b hb
      rw [overburdenlaw07_CountKept.j1, if_neg hb, if_pos rfl, if_pos rfl, if_pos (by simp), if_pos (by simp), known_true 3998 (by omega)]; rfl
    obtain ⟨b, hb⟩ : ∃ b, (if ¬ (2 ≤ D ∧ D ≤ 1000) then (2 : Int) else if 4000 < l.length then 3 else 0) = b := ⟨_, rfl⟩
    by_cases hb0 : b = 0
    · subst hb0
      have hD : 2 ≤ D ∧ D ≤ 1000 := by
        rcases Classical.em (2 ≤ D ∧ D ≤ 1000) with h | h
        · exact h
        · rw [if_pos h] at hb; omega
      have hl : l.length ≤ 4000 := by
        rw [if_neg (fun hn => hn hD)] at hb
        rcases Nat.lt_or_ge 4000 l.length with h | h
        · rw [if_pos h] at hb; omega
        · exact h
      obtain ⟨D, rfl⟩ := Int.eq_ofNat_of_zero_le (show 0 ≤ D by omega)
      cases hA : withinB A 2 900000
      · have hlist : listedV l.length D (withinB A 2 900000) = 2 := by
          unfold listedV
          rw [if_neg (by omega), if_neg (by omega), hA, if_pos rfl]
        rw [hb, count_Kept.f, count_Set.f, hlist, if_neg (by decide), if_neg (by decide)]
        simp only [Option.bind_some, if_true, Bool.not_false]
        rw [overburdenlaw07_CountKept.j0, if_pos rfl]
        exact hbadj 2 (by decide)
      · have hA' := withinB_iff.1 hA
        have hlist : listedV l.length D (withinB A 2 900000) = 0 := by
          unfold listedV
          rw [if_neg (by omega), if_neg (by omega), hA, if_neg (by simp)]
        have hs := spans_le (runS D A l Cn.start) (D := D) (by omega)
        rw [hb, count_Kept.f, count_Set.f, if_pos hlist, if_pos hlist]
        simp only [Option.bind_some, if_true, Bool.not_true, Int.toNat_natCast]
        rw [overburdenlaw07_CountKept.j0, if_neg (by simp), overburdenlaw07_CountKept.j1, if_pos rfl, ref_set l D A _ (by omega) (by omega) hA'.1 hA'.2 hl (by omega)]
        simp only [Option.bind_some, if_true]
        rw [ref_kept l D A _ (by omega) (by omega) hA'.1 hA'.2 hl (by omega)]
        simp only [Option.bind_some]
        rw [ref_sameSpans _ _ (by omega) (by omega)]
        simp only [Option.bind_some, if_true]
        have hj2 := kept_j2 l D A r 3998 (by omega) (by omega) (by omega) hA'.1 hA'.2 (by omega)
        by_cases hc : cnt (D + 1) (runS D A l Cn.start) = 0
        · rw [if_neg (by simp [hc]), setS, if_pos hc, if_pos rfl, if_neg (by simp)]
          exact hj2
        · rw [if_pos (by simp [hc]), setS, if_neg hc, if_pos rfl]
          simp only [beq_self_eq_true, Bool.not_true, Bool.or_false]
          exact hj2
    · have hne : (if ¬ (2 ≤ D ∧ D ≤ 1000) then (2 : Int) else if 4000 < l.length then 3 else 0) ≠ 0 := by rw [hb]; exact hb0
      rw [count_Kept.f, count_Set.f, listedV_bad hne, hb, if_neg hb0, if_neg hb0]
      simp only [Option.bind_some]
      rw [if_neg hb0, overburdenlaw07_CountKept.j0, if_neg (by simp)]
      exact hbadj b hb0
  · rw [if_neg (by simpa using hf), known_true 4000 (by omega)]; rfl
end Go.Proofs.Ytgofaifmbjallaa.Pure
