import Derived.Test.YtgofaifmbjallaaPax12
import Derived.Test.YtgofaifmbjallaaRc
import Derived.Test.YtgofaifmbjallaaKn
/-! The pure law CountCapital. -/
namespace Go.Proofs.Ytgofaifmbjallaa.Pure
open Go.RowKit Go.Proofs.Ytgofaifmbjallaa.Pa Go.Proofs.YtgofaifmbjallaaW.PrintWords Go.Proofs.YtgofaifmbjallaaW.PrintLast Go.Proofs.YtgofaifmbjallaaW.PrintMore
open Go.Proofs.Ytgofaifmbjallaa.Cn

theorem ref_parts (D : Int) : overburdenref07_Parts.f D = some (withinB D 2 1000) := by
  unfold overburdenref07_Parts.f overburdenref07_in.f withinB
  by_cases h : 2 ≤ D
  · rw [if_pos h]; simp [h]
  · rw [if_neg h]; simp [h]
theorem same_step (L : List Int) (hL : L.length ≤ 9000) : ∀ m i k : Nat, i + m = L.length → m + 1 ≤ k → overburdenref07_Same.l0 k L L i = some true := by
  intro m
  induction m with
  | zero =>
    intro i k hi hk
    obtain ⟨k, rfl⟩ : ∃ j, k = j + 1 := ⟨k - 1, by omega⟩
    rw [overburdenref07_Same.l0, if_neg (by omega)]
  | succ m ih =>
    intro i k hi hk
    obtain ⟨k, rfl⟩ : ∃ j, k = j + 1 := ⟨k - 1, by omega⟩
    rw [overburdenref07_Same.l0, if_pos (by omega), if_pos (by omega), if_pos (by omega), if_pos rfl, wrap_id (by omega) (by omega)]
    exact ih (i + 1) k (by omega) (by omega)
theorem ref_same (L : List Int) (k : Nat) (hL : L.length ≤ 9000) (hk : L.length + 1 ≤ k) : overburdenref07_Same.f k L L = some true := by
  rw [overburdenref07_Same.f, if_pos rfl]
  exact same_step L hL L.length 0 k (by omega) hk
theorem law_wrong (l : List Bool) (D : Int) : overburdenlaw07_wrong.f l D = some (if ¬ (2 ≤ D ∧ D ≤ 1000) then 2 else if 4000 < l.length then 3 else 0) := by
  rw [overburdenlaw07_wrong.f, ref_parts]
  simp only [Option.bind_some]
  by_cases h : 2 ≤ D ∧ D ≤ 1000
  · rw [if_pos (withinB_iff.2 h), show (if ¬ (2 ≤ D ∧ D ≤ 1000) then (2 : Int) else if 4000 < l.length then 3 else 0) = (if 4000 < l.length then 3 else 0) from if_neg (fun hn => hn h)]
    by_cases h2 : 4000 < l.length
    · rw [if_pos (by omega), if_pos h2]
    · rw [if_neg (by omega), if_neg h2]
  · rw [if_neg (fun hw => h (withinB_iff.1 hw)), if_pos h]
theorem law_few (l : List Bool) (D m : Int) : overburdenlaw07_few.f l D m = some (decide (((l.length : Int) ≤ m ∨ (4000 < (l.length : Int) ∧ (l.length : Int) ≤ 4010)) ∧ (D ≤ 40 ∨ 1000 < D))) := by
  unfold overburdenlaw07_few.f
  have ht : ∀ p q : Prop, ∀ (_ : Decidable p) (_ : Decidable q), (p ↔ q) → some (decide p) = some (decide q) := fun p q _ _ h => congrArg some (decide_eq_decide.2 h)
  have t1 : ∀ q : Prop, ∀ (_ : Decidable q), q → some true = some (decide q) := fun q _ h => by rw [decide_eq_true h]
  have t0 : ∀ q : Prop, ∀ (_ : Decidable q), ¬ q → some false = some (decide q) := fun q _ h => by rw [decide_eq_false h]
  split
  · split
    · exact t1 _ _ (by omega)
    · exact ht _ _ _ _ (by constructor <;> intro <;> omega)
  · split
    · split
      · split
        · exact t1 _ _ (by omega)
        · exact ht _ _ _ _ (by constructor <;> intro <;> omega)
      · exact t0 _ _ (by omega)
    · exact t0 _ _ (by omega)
theorem listedV_bad {n : Nat} {D : Int} {fine : Bool} (h : (if ¬ (2 ≤ D ∧ D ≤ 1000) then (2 : Int) else if 4000 < n then 3 else 0) ≠ 0) :
    listedV n D fine = (if ¬ (2 ≤ D ∧ D ≤ 1000) then (2 : Int) else if 4000 < n then 3 else 0) := by
  unfold listedV
  by_cases h1 : 2 ≤ D ∧ D ≤ 1000
  · rw [if_neg (fun hn => hn h1)] at h ⊢
    by_cases h2 : 4000 < n
    · rw [if_pos h2, if_neg (fun hn => hn h1), if_pos h2]
    · rw [if_neg h2] at h; exact absurd rfl h
  · rw [if_pos h1, if_pos h1]

theorem capital_j1 (K : Nat) (l : List Bool) (D A r n e : Int) (there : Bool) (hK : 100 ≤ K) (hD : 2 ≤ D) (hD2 : D ≤ 40) (hl : l.length ≤ 60) (ht : there = (decide (0 ≤ r) && decide (r ≤ D)))
    (hx : count_Excluded.f l D A r = some (n, e)) : overburdenlaw07_CountCapital.j1 K l D A r n e there false = some true := by
  obtain ⟨K, rfl⟩ : ∃ i, K = i + 2 := ⟨K - 2, by omega⟩
  rw [overburdenlaw07_CountCapital.j1, if_neg (by simp)]
  have hbad : (withinB A 2 900000 && withinB r 0 D) = false → overburdenlaw07_CountCapital.j2 (K + 1) l D A r n e true = some true := by
    intro hf
    have : listedV l.length D (withinB A 2 900000 && withinB r 0 D) = 2 := by
      unfold listedV
      rw [if_neg (by omega), if_neg (by omega), hf, if_pos rfl]
    rw [count_Excluded.f, this, if_neg (by decide), Option.some.injEq, Prod.mk.injEq] at hx
    rw [overburdenlaw07_CountCapital.j2, if_pos rfl, if_pos hx.2.symm, if_pos hx.1.symm, known_true K (by omega)]; rfl
  cases hth : there
  · rw [if_neg (by simp)]
    apply hbad
    rw [hth] at ht
    have : withinB r 0 D = false := by
      unfold withinB; exact ht.symm
    rw [this, Bool.and_false]
  · rw [if_pos rfl, law_level]
    simp only [Option.bind_some]
    rw [hth] at ht
    have hr : withinB r 0 D = true := by unfold withinB; exact ht.symm
    have hr' := withinB_iff.1 hr
    cases hA : withinB A 2 900000
    · exact hbad (by rw [hA]; rfl)
    · have hA' := withinB_iff.1 hA
      obtain ⟨r, rfl⟩ := Int.eq_ofNat_of_zero_le hr'.1
      obtain ⟨D, rfl⟩ := Int.eq_ofNat_of_zero_le (show 0 ≤ D by omega)
      have : listedV l.length D (withinB A 2 900000 && withinB r 0 D) = 0 := by
        unfold listedV
        rw [if_neg (by omega), if_neg (by omega), hA, hr, if_neg (by simp)]
      rw [count_Excluded.f, if_pos this, Option.some.injEq, exclS, runS_1, Int.toNat_natCast] at hx
      have ht := timeV_nn (D := D) (A := A) (l := l) (k := r)
      simp only [Bool.not_true]
      rw [overburdenlaw07_CountCapital.j2, if_neg (by simp), ref_excluded l D A r K (by omega) (by omega) (by omega) hA'.1 hA'.2 (by omega) (by omega)]
      simp only [Option.bind_some]
      by_cases ho : (run1 D A r l (Cn.start r)).out = true
      · rw [if_pos ho, Prod.mk.injEq] at hx
        have e1 : timeV D A l r = n := by rw [timeV, if_pos ho]; exact hx.1
        rw [ho] at ht
        have := of_decide_eq_true ht.1.symm
        rw [if_pos this, if_pos hx.2.symm, if_pos e1.symm, known_true K (by omega)]; rfl
      · rw [if_neg ho, Prod.mk.injEq] at hx
        have e1 : timeV D A l r = -1 := by rw [timeV, if_neg ho]
        rw [e1, if_neg (by omega), if_pos hx.2.symm, if_pos hx.1.symm, known_true K (by omega)]; rfl

theorem CountCapital (l : List Bool) (D A r : Int) (_ : l.length ≤ maxLen) (_ : (Lit.int .i64 D).wf = true) (_ : (Lit.int .i64 A).wf = true) (_ : (Lit.int .i64 r).wf = true) :
    ∃ k, overburdenlaw07_CountCapital.f k l D A r = some true := by
  refine ⟨3000, ?_⟩
  rw [overburdenlaw07_CountCapital.f, law_few, law_wrong]
  simp only [Option.bind_some]
  by_cases hf : (((l.length : Int) ≤ 60 ∨ (4000 < (l.length : Int) ∧ (l.length : Int) ≤ 4010)) ∧ (D ≤ 40 ∨ 1000 < D))
  · rw [if_pos (decide_eq_true hf)]
    by_cases hb : (if ¬ (2 ≤ D ∧ D ≤ 1000) then (2 : Int) else if 4000 < l.length then 3 else 0) = 0
    · have hD : 2 ≤ D ∧ D ≤ 1000 := by
        rcases Classical.em (2 ≤ D ∧ D ≤ 1000) with h | h
        · exact h
        · rw [if_pos h] at hb; omega
      have hl : l.length ≤ 4000 := by
        rw [if_neg (fun hn => hn hD)] at hb
        rcases Nat.lt_or_ge 4000 l.length with h | h
        · rw [if_pos h] at hb; omega
        · exact h
      obtain ⟨⟨n, e⟩, hx⟩ : ∃ v, count_Excluded.f l D A r = some v := by
        unfold count_Excluded.f; split <;> exact ⟨_, rfl⟩
      have hj := fun K there hK ht => capital_j1 K l D A r n e there hK hD.1 (by omega) (by omega) ht hx
      obtain ⟨v, hv⟩ : ∃ v, count_Capital.f l D r = some v := by
        unfold count_Capital.f; split <;> exact ⟨_, rfl⟩
      rw [hv, hx]
      simp only [Option.bind_some]
      rw [if_pos hb]
      by_cases hth : 0 ≤ r ∧ r ≤ D
      · have hlist : listedV l.length D (withinB r 0 D) = 0 := by
          unfold listedV
          rw [if_neg (by omega), if_neg (by omega), withinB_iff.2 hth, if_neg (by simp)]
        rw [count_Capital.f, if_pos hlist, Option.some.injEq] at hv
        subst hv
        rw [if_pos hth.1, decide_eq_true hth.2, overburdenlaw07_CountCapital.j0, if_pos rfl, if_pos rfl, ref_capital l D r _ hD.1 hD.2 hth.1 hth.2 hl (by omega)]
        simp only [Option.bind_some]
        rw [ref_same _ _ (by rw [List.length_cons, cls_len]; omega) (by rw [List.length_cons, cls_len]; omega)]
        simp only [Option.bind_some, Bool.not_true]
        exact hj _ true (by omega) (by simp [hth])
      · have hw : withinB r 0 D = false := by
          rcases h : withinB r 0 D with _ | _
          · rfl
          · exact absurd (withinB_iff.1 h) hth
        have hlist : listedV l.length D (withinB r 0 D) = 2 := by
          unfold listedV
          rw [if_neg (by omega), if_neg (by omega), hw, if_pos rfl]
        have h0 : overburdenlaw07_CountCapital.j0 3000 l D A r [] 2 n e false = some true := by
          rw [overburdenlaw07_CountCapital.j0, if_neg (by simp), if_pos rfl, if_pos (by simp)]
          exact hj _ false (by omega) (by rw [← hw]; rfl)
        rw [count_Capital.f, hlist, if_neg (by decide), Option.some.injEq] at hv
        subst hv
        split
        · rw [decide_eq_false (by omega)]; exact h0
        · exact h0
    · rw [count_Capital.f, count_Excluded.f, listedV_bad hb, listedV_bad hb, if_neg hb]
      simp only [Option.bind_some]
      rw [if_neg hb]
      simp only [Option.bind_some]
      rw [if_neg hb, if_pos trivial, if_pos trivial]
      simp [known_true 3000 (by omega)]
  · rw [if_neg (by simpa using hf), known_true 3000 (by omega)]; rfl
end Go.Proofs.Ytgofaifmbjallaa.Pure
