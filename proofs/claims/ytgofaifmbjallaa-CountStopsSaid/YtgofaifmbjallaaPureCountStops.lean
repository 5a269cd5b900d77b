import Derived.Test.YtgofaifmbjallaaPax15
import Derived.Test.YtgofaifmbjallaaHs
import Derived.Test.YtgofaifmbjallaaKn
/-! The pure law CountStops. -/
namespace Go.Proofs.Ytgofaifmbjallaa.Pure
open Go.RowKit Go.Proofs.Ytgofaifmbjallaa.Pa Go.Proofs.YtgofaifmbjallaaW.PrintWords Go.Proofs.YtgofaifmbjallaaW.PrintLast Go.Proofs.YtgofaifmbjallaaW.PrintMore
open Go.Proofs.Ytgofaifmbjallaa.Cn

/-- after so many slots the rates that are kept are close together, or there are none -/
def nearV (D : Nat) (A width : Int) (l : List Bool) (j : Nat) : Bool := doneV (runS D A (l.take j) Cn.start) D width

theorem stopL_spec (D : Nat) (A width : Int) : ∀ (l p : List Bool), 
    (∃ n, p.length < n ∧ n ≤ (p ++ l).length ∧ stopL D A width l (runS D A p Cn.start) p.length = ((n : Int), 0) ∧ nearV D A width (p ++ l) n = true ∧ ∀ j, p.length < j → j < n → nearV D A width (p ++ l) j = false) ∨
    (stopL D A width l (runS D A p Cn.start) p.length = (0, 5) ∧ ∀ j, p.length < j → j ≤ (p ++ l).length → nearV D A width (p ++ l) j = false)
  | [], p => by
    right
    refine ⟨rfl, fun j h1 h2 => ?_⟩
    simp at h2; omega
  | x :: l, p => by
    have e : stepAll D A x (runS D A p Cn.start) = runS D A (p ++ [x]) Cn.start := (runS_snoc D A p x Cn.start).symm
    have el : p ++ x :: l = (p ++ [x]) ++ l := by simp
    have ht : nearV D A width (p ++ x :: l) (p.length + 1) = doneV (runS D A (p ++ [x]) Cn.start) D width := by
      unfold nearV
      rw [el, List.take_append_of_le_length (by simp), List.take_of_length_le (by simp)]
    have ih := stopL_spec D A width l (p ++ [x])
    rw [stopL, e]
    by_cases hd : doneV (runS D A (p ++ [x]) Cn.start) D width = true
    · rw [if_pos hd]
      left
      refine ⟨p.length + 1, by omega, by simp, by simp, by rw [ht]; exact hd, fun j h1 h2 => by omega⟩
    · rw [if_neg hd]
      have hl : ((p ++ [x]).length : Int) = (p.length : Int) + 1 := by simp
      rw [hl, ← el] at ih
      have hln : (p ++ [x]).length = p.length + 1 := by simp
      rw [hln] at ih
      have hf : nearV D A width (p ++ x :: l) (p.length + 1) = false := by rw [ht]; simpa using hd
      rcases ih with ⟨n, h1, h2, h3, h4, h5⟩ | ⟨h3, h5⟩
      · left
        refine ⟨n, by omega, h2, h3, h4, fun j g1 g2 => ?_⟩
        rcases Nat.lt_or_ge (p.length + 1) j with g3 | g3
        · exact h5 j g3 g2
        · obtain rfl : j = p.length + 1 := by omega
          exact hf
      · right
        refine ⟨h3, fun j g1 g2 => ?_⟩
        rcases Nat.lt_or_ge (p.length + 1) j with g3 | g3
        · exact h5 j g3 g2
        · obtain rfl : j = p.length + 1 := by omega
          exact hf
theorem stop_spec (D : Nat) (A width : Int) (l : List Bool) :
    (∃ n, n ≤ l.length ∧ stopS D A width l = ((n : Int), 0) ∧ nearV D A width l n = true ∧ ∀ j, j < n → nearV D A width l j = false) ∨
    (stopS D A width l = (0, 5) ∧ ∀ j, j ≤ l.length → nearV D A width l j = false) := by
  have h := stopL_spec D A width l []
  simp only [List.nil_append, List.length_nil, runS] at h
  have h0 : nearV D A width l 0 = doneV Cn.start D width := by simp [nearV, runS]
  rw [stopS]
  by_cases hd : doneV Cn.start D width = true
  · rw [if_pos hd]
    left
    exact ⟨0, by omega, rfl, by rw [h0]; exact hd, fun j hj => by omega⟩
  · rw [if_neg hd]
    have hf : nearV D A width l 0 = false := by rw [h0]; simpa using hd
    rcases h with ⟨n, h1, h2, h3, h4, h5⟩ | ⟨h3, h5⟩
    · left
      refine ⟨n, h2, by simpa using h3, h4, fun j g => ?_⟩
      rcases Nat.eq_zero_or_pos j with rfl | g1
      · exact hf
      · exact h5 j g1 g
    · right
      refine ⟨by simpa using h3, fun j g => ?_⟩
      rcases Nat.eq_zero_or_pos j with rfl | g1
      · exact hf
      · exact h5 j g1 g

theorem set_ok {l : List Bool} {D : Nat} {A : Int} (h1 : 2 ≤ D) (h2 : D ≤ 1000) (h3 : l.length ≤ 4000) (h4 : 2 ≤ A) (h5 : A ≤ 900000) :
    count_Set.f l D A = some (setS (runS D A l Cn.start) D) := by
  have hw : withinB A 2 900000 = true := withinB_iff.2 ⟨h4, h5⟩
  have : listedV l.length D (withinB A 2 900000) = 0 := by
    unfold listedV
    rw [if_neg (by omega), if_neg (by omega), hw, if_neg (by simp)]
  rw [count_Set.f, if_pos this]; rfl

theorem stops_l0 (l : List Bool) (D : Nat) (A width : Int) (n e : Int) (hD : 2 ≤ D) (hD2 : D ≤ 40) (hA : 2 ≤ A) (hA2 : A ≤ 900000) (hl : l.length ≤ 40)
    (hs : (∃ m : Nat, m ≤ l.length ∧ n = m ∧ e = 0 ∧ nearV D A width l m = true ∧ ∀ j, j < m → nearV D A width l j = false) ∨ (e = 5 ∧ ∀ j, j ≤ l.length → nearV D A width l j = false)) :
    ∀ m j K : Nat, j + m = l.length + 1 → (∀ m' : Nat, e = 0 → n = m' → j ≤ m') → 3 * m + 2000 ≤ K → overburdenlaw07_CountStops.l0 K l D A width n e j = some true := by
  intro m
  induction m with
  | zero =>
    intro j K hj hjn hK
    obtain ⟨K, rfl⟩ : ∃ i, K = i + 1 := ⟨K - 1, by omega⟩
    rw [overburdenlaw07_CountStops.l0, if_neg (by omega)]
    rcases hs with ⟨m, h1, h2, h3, _⟩ | ⟨h3, _⟩
    · have := hjn m h3 h2; omega
    · rw [if_pos h3, known_true K (by omega)]; rfl
  | succ m ih =>
    intro j K hj hjn hK
    obtain ⟨K, rfl⟩ : ∃ i, K = i + 3 := ⟨K - 3, by omega⟩
    have hset := set_ok (l := l.take j) hD (by omega) (by simp; omega) hA hA2
    have hnear : nearV D A width l j = doneV (runS D A (l.take j) Cn.start) D width := rfl
    -- what the law makes of the set
    have hj3 : ∀ b : Bool, nearV D A width l j = b → overburdenlaw07_CountStops.j3 (K + 2) l D A width n e j b = some true := by
      intro b hb
      rw [overburdenlaw07_CountStops.j3]
      rcases hs with ⟨m0, h1, h2, h3, h4, h5⟩ | ⟨h3, h5⟩
      · rw [if_pos h3, overburdenlaw07_CountStops.j4]
        have hle := hjn m0 h3 h2
        by_cases he : j = m0
        · subst he
          rw [if_pos (by simp [h2]), ← hb, h4, if_pos rfl, known_true K (by omega)]; rfl
        · rw [if_neg (by simp; omega), ← hb, h5 j (by omega), if_neg (by simp), wrap_id (by omega) (by omega)]
          refine ih (j + 1) K (by omega) (fun m' g1 g2 => ?_) (by omega)
          have : (m' : Int) = m0 := by rw [← g2, h2]
          omega
      · rw [if_neg (by omega), overburdenlaw07_CountStops.j4, if_neg (by simp), ← hb, h5 j (by omega), if_neg (by simp), wrap_id (by omega) (by omega)]
        exact ih (j + 1) K (by omega) (fun m' g1 g2 => by omega) (by omega)
    rw [overburdenlaw07_CountStops.l0, if_pos (by omega), if_pos (by omega), Int.toNat_natCast, hset]
    simp only [Option.bind_some]
    by_cases hk : cnt (D + 1) (runS D A (l.take j) Cn.start) = 0
    · rw [setS, if_pos hk, if_pos rfl]
      exact hj3 true (by rw [hnear, doneV]; simp [hk])
    · rw [setS, if_neg hk]
      obtain ⟨f1, f2, f3, f4⟩ := hull_bd (D := D) (by omega) (spans_ne hk)
      rw [if_neg (by simp), if_pos rfl, wrap_id (by simp only; omega) (by simp only; omega)]
      exact hj3 _ (by rw [hnear, doneV]; simp [hk])

theorem CountStops (l : List Bool) (a1 A width : Int) (_ : l.length ≤ maxLen) (_ : (Lit.int .i64 a1).wf = true) (_ : (Lit.int .i64 A).wf = true) (_ : (Lit.int .i64 width).wf = true) :
    ∃ k, overburdenlaw07_CountStops.f k l a1 A width = some true := by
  refine ⟨3000, ?_⟩
  have key : overburdenlaw07_CountStops.j0 3000 l a1 A width true = some true := by
    rw [overburdenlaw07_CountStops.j0, if_pos rfl, known_true _ (by omega)]; rfl
  unfold overburdenlaw07_CountStops.f
  rw [law_level]
  simp only [Option.bind_some]
  split
  · exact key
  · split
    · exact key
    · split
      · exact key
      · split
        · split
          · exact key
          · rename_i hA hw
            rw [withinB_iff] at hA
            by_cases h : width > a1
            · rw [decide_eq_true h]; exact key
            · rw [decide_eq_false h]
              obtain ⟨D, rfl⟩ := Int.eq_ofNat_of_zero_le (show 0 ≤ a1 by omega)
              have hfine : (withinB A 2 900000 && withinB width 0 D) = true := by
                rw [Bool.and_eq_true, withinB_iff, withinB_iff]; omega
              have hlist : listedV l.length D (withinB A 2 900000 && withinB width 0 D) = 0 := by
                unfold listedV
                rw [if_neg (by omega), if_neg (by omega), hfine, if_neg (by simp)]
              rw [overburdenlaw07_CountStops.j0, if_neg (by simp), count_Stop.f, if_pos hlist]
              simp only [Option.bind_some, Int.toNat_natCast]
              have hj1 : ∀ n e : Int, 0 ≤ n → n ≤ l.length → stopS D A width l = (n, e) → overburdenlaw07_CountStops.j1 2999 l D A width n e false = some true := by
                intro n e _ _ hs
                rw [overburdenlaw07_CountStops.j1, if_neg (by simp)]
                refine stops_l0 l D A width n e (by omega) (by omega) hA.1 hA.2 (by omega) ?_ (l.length + 1) 0 2998 (by omega) (fun _ _ _ => by omega) (by omega)
                rcases stop_spec D A width l with ⟨m, h1, h2, h3, h4⟩ | ⟨h2, h4⟩
                · rw [h2, Prod.mk.injEq] at hs
                  exact Or.inl ⟨m, h1, hs.1.symm, hs.2.symm, h3, h4⟩
                · rw [h2, Prod.mk.injEq] at hs
                  exact Or.inr ⟨hs.2.symm, h4⟩
              rcases stop_spec D A width l with ⟨m, h1, h2, _⟩ | ⟨h2, _⟩
              · have := hj1 m 0 (by omega) (by omega) h2
                rw [h2, if_pos rfl, if_neg (by simp only; omega), decide_eq_false (by simp only; omega)]
                exact this
              · have := hj1 0 5 (by omega) (by omega) h2
                rw [h2, if_neg (by simp), if_pos rfl, if_neg (by simp), decide_eq_false (by simp)]
                exact this
        · exact key
end Go.Proofs.Ytgofaifmbjallaa.Pure
