import Derived.Test.YtgofaifmbjallaaPax18
import Derived.Test.YtgofaifmbjallaaRk
import Derived.Test.YtgofaifmbjallaaLw
import Derived.Test.YtgofaifmbjallaaKn
/-! The pure law CountCompares. -/
namespace Go.Proofs.Ytgofaifmbjallaa.Pure
open Go.RowKit Go.Proofs.Ytgofaifmbjallaa.Pa Go.Proofs.YtgofaifmbjallaaW.PrintWords Go.Proofs.YtgofaifmbjallaaW.PrintLast Go.Proofs.YtgofaifmbjallaaW.PrintMore
open Go.Proofs.Ytgofaifmbjallaa.Cn

theorem runsL_mem {f : Nat → Bool} {n : Nat} : ∀ (d low : Nat) (t : S65), t ∈ runsL f n d low → (low : Int) ≤ t.f0 ∧ t.f0 ≤ t.f1
  | 0, _, t, h => by simp [runsL] at h
  | d + 1, low, t, h => by
    rw [runsL_succ] at h
    split at h
    · split at h
      · have hg := ext_ge f n n low
        rcases List.mem_cons.1 h with rfl | h
        · exact ⟨by simp only; omega, by simp only; omega⟩
        · have := runsL_mem d _ t h
          omega
      · have := runsL_mem d _ t h
        omega
    · simp at h
theorem runsL_first {f : Nat → Bool} {n : Nat} : ∀ (d low : Nat) (s : S65) (L : List S65), runsL f n d low = s :: L → s.f0 ≤ s.f1 ∧ ∀ t ∈ L, s.f0 ≤ t.f1
  | 0, _, s, L, h => by simp [runsL] at h
  | d + 1, low, s, L, h => by
    rw [runsL_succ] at h
    split at h
    · split at h
      · have hg := ext_ge f n n low
        injection h with h1 h2
        subst h1
        refine ⟨by simp only; omega, fun t ht => ?_⟩
        rw [← h2] at ht
        have := runsL_mem d _ t ht
        simp only
        omega
      · exact runsL_first d _ s L h
    · simp at h
theorem hull_le {S : Nat → KS} {D : Nat} (h : cnt (D + 1) S ≠ 0) : (hullL (spansS S D)).f0 ≤ (hullL (spansS S D)).f1 := by
  have hn := spans_ne h
  cases hs : spansS S D with
  | nil => rw [hs] at hn; simp at hn
  | cons s L =>
    have hf := runsL_first _ _ s L hs
    simp only [hullL]
    have e0 : rd_T65 (s :: L) 0 = s := rfl
    rw [e0]
    cases L with
    | nil =>
      have e1 : rd_T65 [s] ((([s] : List S65).length : Int) - 1) = s := rfl
      rw [e1]; exact hf.1
    | cons t L =>
      apply hf.2
      have : rd_T65 (s :: t :: L) (((s :: t :: L).length : Int) - 1) = (t :: L)[L.length]'(by simp) := by
        simp only [rd_T65, List.length_cons]
        rw [show (((L.length + 1 + 1 : Nat) : Int) - 1).toNat = L.length + 1 by omega]
        simp
      rw [this]
      exact List.getElem_mem _

/-- exchanged -/
def otherV (v : Int) : Int := if v = 2 then 3 else if v = 3 then 2 else v
theorem cmpV_other (X Y : Nat → KS) (D : Nat) : cmpV Y X D = otherV (cmpV X Y D) := by
  unfold cmpV
  by_cases hx : cnt (D + 1) X = 0
  · rw [if_pos (Or.inr hx), if_pos (Or.inl hx)]; rfl
  · by_cases hy : cnt (D + 1) Y = 0
    · rw [if_pos (Or.inl hy), if_pos (Or.inr hy)]; rfl
    · have hyx : ¬ (cnt (D + 1) Y = 0 ∨ cnt (D + 1) X = 0) := fun h => h.elim hy hx
      have hxy : ¬ (cnt (D + 1) X = 0 ∨ cnt (D + 1) Y = 0) := fun h => h.elim hx hy
      rw [if_neg hyx, if_neg hxy]
      have h1 := hull_le hx
      have h2 := hull_le hy
      by_cases a : (hullL (spansS X D)).f1 < (hullL (spansS Y D)).f0
      · rw [if_pos a, if_neg (by omega), if_pos a]; rfl
      · rw [if_neg a]
        by_cases b : (hullL (spansS Y D)).f1 < (hullL (spansS X D)).f0
        · rw [if_pos b, if_pos b, if_neg a]; rfl
        · rw [if_neg b, if_neg b, if_neg a]; rfl
theorem cmpV_val (X Y : Nat → KS) (D : Nat) : cmpV X Y D = 1 ∨ cmpV X Y D = 2 ∨ cmpV X Y D = 3 := by
  unfold cmpV
  split
  · exact Or.inl rfl
  · split
    · exact Or.inr (Or.inl rfl)
    · split
      · exact Or.inr (Or.inr rfl)
      · exact Or.inl rfl

def wrongV (n : Nat) (D : Int) : Int := if ¬ (2 ≤ D ∧ D ≤ 1000) then 2 else if 4000 < n then 3 else 0
theorem cmpE_val (l0 l1 : List Bool) (D lv : Int) : cmpE l0 l1 D lv = (if wrongV l0.length D = 0 then (if wrongV l1.length D = 0 then (if withinB lv 2 450000 = true then 0 else 2) else wrongV l1.length D) else wrongV l0.length D) := by
  unfold cmpE wrongV listedV
  by_cases hD : 2 ≤ D ∧ D ≤ 1000
  · simp only [hD, and_self, not_true_eq_false, if_false]
    by_cases h0 : 4000 < l0.length
    · simp [h0, show ¬ (l0.length ≤ 4000) by omega]
    · by_cases h1 : 4000 < l1.length
      · simp [h0, h1, show l0.length ≤ 4000 by omega]
      · cases hw : withinB lv 2 450000 <;> simp [h0, h1]
  · simp only [hD, not_false_eq_true, if_true]
    by_cases h0 : l0.length ≤ 4000
    · simp [h0]
    · simp [h0]

theorem set_cnt (S : Nat → KS) (D : Nat) : (setS S D).2.2 = 0 ∨ (setS S D).2.2 = 5 := by
  unfold setS; split <;> simp
theorem ref_compare (l0 l1 : List Bool) (D : Nat) (A : Int) (k : Nat) (hD : 2 ≤ D) (hD2 : D ≤ 1000) (hA : 2 ≤ A) (hA2 : A ≤ 450000) (h0 : l0.length ≤ 4000) (h1 : l1.length ≤ 4000) (hk : D + l0.length + l1.length + 6 ≤ k) :
    overburdenref07_Compare.f k l0 l1 D A = some (cmpV (runS D (2 * A) l0 Cn.start) (runS D (2 * A) l1 Cn.start) D) := by
  obtain ⟨k, rfl⟩ : ∃ j, k = j + 1 := ⟨k - 1, by omega⟩
  rw [overburdenref07_Compare.f, wrap_id (by omega) (by omega), ref_set l0 D (2 * A) _ hD hD2 (by omega) (by omega) h0 (by omega), ref_set l1 D (2 * A) _ hD hD2 (by omega) (by omega) h1 (by omega)]
  simp only [Option.bind_some]
  generalize runS (D : Int) (2 * A) l0 Cn.start = X
  generalize runS (D : Int) (2 * A) l1 Cn.start = Y
  unfold cmpV
  by_cases hx : cnt (D + 1) X = 0
  · rw [if_neg (by simp [hx]), if_pos (Or.inl hx), overburdenref07_Compare.j0, if_pos rfl]
  · rw [if_pos (by simp [hx])]
    by_cases hy : cnt (D + 1) Y = 0
    · rw [if_pos (Or.inr hy), overburdenref07_Compare.j0, if_pos (by simp [hy])]
    · rw [if_neg (fun h => h.elim hx hy), overburdenref07_Compare.j0, if_neg (by simp [hy]), setS, setS, if_neg hx, if_neg hy]
      simp only
      split
      · rfl
      · split
        · rfl
        · rfl

theorem CountCompares (l0 l1 : List Bool) (D A : Int) (_ : l0.length ≤ maxLen) (_ : l1.length ≤ maxLen) (_ : (Lit.int .i64 D).wf = true) (_ : (Lit.int .i64 A).wf = true) :
    ∃ k, overburdenlaw07_CountCompares.f k l0 l1 D A = some true := by
  refine ⟨9000, ?_⟩
  have key : overburdenlaw07_CountCompares.j0 9000 l0 l1 D A true = some true := by
    rw [overburdenlaw07_CountCompares.j0, if_pos rfl, known_true _ (by omega)]; rfl
  rw [overburdenlaw07_CountCompares.f, law_few, law_few]
  simp only [Option.bind_some]
  split
  · rename_i hf0
    have hf0 := of_decide_eq_true hf0
    by_cases hf1 : (((l1.length : Int) ≤ 60 ∨ (4000 < (l1.length : Int) ∧ (l1.length : Int) ≤ 4010)) ∧ (D ≤ 40 ∨ 1000 < D))
    · rw [decide_eq_true hf1]
      obtain ⟨v, hv⟩ : ∃ v, count_Compare.f l0 l1 D A = some v := by
        unfold count_Compare.f; split <;> exact ⟨_, rfl⟩
      have hj : ∀ b : Int, b = cmpE l0 l1 D A → overburdenlaw07_CountCompares.j3 8997 l0 l1 D A v.1 v.2 b = some true := by
        intro b hb
        rw [overburdenlaw07_CountCompares.j3]
        by_cases hb0 : b = 0
        · rw [if_pos hb0]
          subst hb0
          have he := cmpE_ok hb.symm
          obtain ⟨d1, d2, d3, d4⟩ := listedV_ok he.1
          obtain ⟨_, _, d5, _⟩ := listedV_ok he.2
          rw [withinB_iff] at d4
          obtain ⟨D, rfl⟩ := Int.eq_ofNat_of_zero_le (show 0 ≤ D by omega)
          have he' : cmpE l1 l0 D A = 0 := by
            have h := hb.symm
            rw [cmpE_val] at h ⊢
            have w0 : wrongV l0.length D = 0 := by unfold wrongV; rw [if_neg (by omega), if_neg (by omega)]
            have w1 : wrongV l1.length D = 0 := by unfold wrongV; rw [if_neg (by omega), if_neg (by omega)]
            rw [w0, w1, if_pos rfl, if_pos rfl] at h ⊢
            exact h
          rw [count_Compare.f, if_pos hb.symm, Option.some.injEq] at hv
          subst hv
          rw [if_pos rfl, ref_compare l0 l1 D A _ (by omega) (by omega) d4.1 d4.2 d3 d5 (by omega)]
          simp only [Option.bind_some, Int.toNat_natCast, bne_self_eq_false]
          rw [overburdenlaw07_CountCompares.j4, if_neg (by simp), count_Compare.f, if_pos he', Int.toNat_natCast]
          simp only [Option.bind_some]
          rw [cmpV_other (runS D (2 * A) l0 Cn.start) (runS D (2 * A) l1 Cn.start) D, known_true 8995 (by omega)]
          rcases cmpV_val (runS D (2 * A) l0 Cn.start) (runS D (2 * A) l1 Cn.start) D with h | h | h <;> rw [h] <;> rfl
        · rw [if_neg hb0]
          rw [hb] at hb0
          rw [count_Compare.f, if_neg hb0, Option.some.injEq] at hv
          subst hv
          rw [if_pos hb.symm, if_pos rfl, known_true 8996 (by omega)]; rfl
      simp only [Bool.not_true]
      rw [overburdenlaw07_CountCompares.j0, if_neg (by simp), hv, law_wrong, law_wrong]
      simp only [Option.bind_some]
      have hval := cmpE_val l0 l1 D A
      rw [show (if ¬ (2 ≤ D ∧ D ≤ 1000) then (2 : Int) else if 4000 < l0.length then 3 else 0) = wrongV l0.length D from rfl, show (if ¬ (2 ≤ D ∧ D ≤ 1000) then (2 : Int) else if 4000 < l1.length then 3 else 0) = wrongV l1.length D from rfl]
      by_cases h0 : wrongV l0.length D = 0
      · rw [if_pos h0] at hval ⊢
        rw [overburdenlaw07_CountCompares.j1]
        by_cases h1 : wrongV l1.length D = 0
        · rw [if_pos h1] at hval ⊢
          rw [law_level]
          simp only [Option.bind_some]
          rw [overburdenlaw07_CountCompares.j2]
          cases hA : withinB A 2 450000
          · rw [hA, if_neg (by simp)] at hval
            exact hj 2 hval.symm
          · rw [hA, if_pos rfl] at hval
            simp only [Bool.not_true, Bool.false_eq_true, if_false]
            exact hj _ (by rw [h1, hval])
        · rw [if_neg h1] at hval ⊢
          rw [overburdenlaw07_CountCompares.j2, if_neg (by simp)]
          exact hj _ hval.symm
      · rw [if_neg h0] at hval ⊢
        rw [overburdenlaw07_CountCompares.j1, if_neg h0, overburdenlaw07_CountCompares.j2, if_neg (by simp)]
        exact hj _ hval.symm
    · rw [decide_eq_false hf1]; exact key
  · exact key
end Go.Proofs.Ytgofaifmbjallaa.Pure
