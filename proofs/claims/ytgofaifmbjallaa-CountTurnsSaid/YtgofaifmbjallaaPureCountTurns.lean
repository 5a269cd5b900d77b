import Derived.Test.YtgofaifmbjallaaPax11
import Derived.Test.YtgofaifmbjallaaHs
import Derived.Test.YtgofaifmbjallaaKn
/-! The pure law CountTurns. -/
namespace Go.Proofs.Ytgofaifmbjallaa.Pure
open Go.RowKit Go.Proofs.Ytgofaifmbjallaa.Pa Go.Proofs.YtgofaifmbjallaaW.PrintWords Go.Proofs.YtgofaifmbjallaaW.PrintLast Go.Proofs.YtgofaifmbjallaaW.PrintMore
open Go.Proofs.Ytgofaifmbjallaa.Cn

/-- a greater level excludes later, if at all -/
structure Behind (s t : KS) : Prop where
  n : s.n = t.n
  h : s.h = t.h
  c : s.c = t.c
theorem step_in {D A : Int} {x : Bool} {k : Nat} {s : KS} (h : s.out = false) :
    KS.step D A x k s = ⟨s.n + 1, s.h + b2i x, moveV x D s.n s.h k s.c, decide (A * 1048576 ≤ moveV x D s.n s.h k s.c), if A * 1048576 ≤ moveV x D s.n s.h k s.c then s.n + 1 else s.at_⟩ := by
  unfold KS.step; rw [if_neg (by simp [h])]
theorem behind_run {D A B : Int} {k : Nat} (hAB : A ≤ B) : ∀ (l : List Bool) (s t : KS), (s.out = true ∨ (s.out = false ∧ t.out = false ∧ Behind s t)) →
    (run1 D A k l s).out = true ∨ ((run1 D A k l s).out = false ∧ (run1 D B k l t).out = false)
  | [], s, t, h => h.imp id (fun h => ⟨h.1, h.2.1⟩)
  | x :: l, s, t, h => by
    rw [run1, run1]
    apply behind_run hAB l
    rcases h with h | ⟨h1, h2, h3⟩
    · left; rw [worth_out k x h]; exact h
    · obtain ⟨e1, e2, e3⟩ := h3
      rw [step_in h1, step_in h2, ← e1, ← e2, ← e3]
      generalize moveV x D s.n s.h k s.c = c
      by_cases hc : A * 1048576 ≤ c
      · left; exact decide_eq_true hc
      · right
        exact ⟨decide_eq_false hc, decide_eq_false (by omega), rfl, rfl, rfl⟩

/-- the same bet, hits and others exchanged -/
structure Twin (s t : KS) : Prop where
  n : t.n = s.n
  h : t.h = s.n - s.h
  c : t.c = s.c
  o : t.out = s.out
theorem hit_miss {D n h k c : Int} (hD : 2 ≤ D) (hk : 0 ≤ k) (hk2 : k ≤ D) : missV D n (n - h) (D - k) c = hitV D n h k c := by
  unfold missV hitV
  rw [show n - (n - h) + 1 = h + 1 by omega, show D - (D - k) = k by omega]
  by_cases h1 : k = 0
  · rw [if_neg (by omega), if_pos (by omega), if_pos h1]
  · by_cases h2 : k = D
    · rw [if_pos (by omega), if_neg h1, if_pos h2]
    · rw [if_neg (by omega), if_neg (by omega), if_neg h1, if_neg h2]
theorem twin_step {D A : Int} {k j : Nat} (hD : 2 ≤ D) (hj : (j : Int) = D - k) (hk2 : (k : Int) ≤ D) {s t : KS} (x : Bool) (h : Twin s t) : Twin (KS.step D A x k s) (KS.step D A (!x) j t) := by
  obtain ⟨e1, e2, e3, e4⟩ := h
  have hm : moveV (!x) D t.n t.h j t.c = moveV x D s.n s.h k s.c := by
    rw [e1, e2, e3, hj]
    cases x
    · simp only [moveV, Bool.not_false, if_true, Bool.false_eq_true, if_false]
      have := hit_miss (D := D) (n := s.n) (h := s.n - s.h) (k := D - k) (c := s.c) hD (by omega) (by omega)
      rw [← this, show s.n - (s.n - s.h) = s.h by omega, show D - (D - (k : Int)) = k by omega]
    · simp only [moveV, Bool.not_true, if_true, Bool.false_eq_true, if_false]
      exact hit_miss hD (by omega) hk2
  unfold KS.step
  rw [e4]
  split
  · rename_i ho
    exact ⟨e1, e2, e3, by rw [e4]⟩
  · rw [hm, e1, e2]
    refine ⟨rfl, ?_, rfl, rfl⟩
    cases x <;> simp [b2i] <;> omega
theorem twin_run {D A : Int} {k j : Nat} (hD : 2 ≤ D) (hj : (j : Int) = D - k) (hk2 : (k : Int) ≤ D) : ∀ (l : List Bool) (s t : KS), Twin s t → (run1 D A j (l.map (!·)) t).out = (run1 D A k l s).out
  | [], _, _, h => h.o
  | x :: l, s, t, h => by
    rw [List.map_cons, run1, run1]
    exact twin_run hD hj hk2 l _ _ (twin_step hD hj hk2 x h)

theorem turned_step (l : List Bool) (hl : l.length ≤ 4000) : ∀ m i k : Nat, i + m = l.length → m + 1 ≤ k → overburdenref07_Turned.l0 k l ((l.take i).map (!·)) i = some (l.map (!·)) := by
  intro m
  induction m with
  | zero =>
    intro i k hi hk
    obtain ⟨k, rfl⟩ : ∃ j, k = j + 1 := ⟨k - 1, by omega⟩
    rw [overburdenref07_Turned.l0, if_neg (by omega), List.take_of_length_le (by omega)]
  | succ m ih =>
    intro i k hi hk
    obtain ⟨k, rfl⟩ : ∃ j, k = j + 1 := ⟨k - 1, by omega⟩
    have hlt : i < l.length := by omega
    rw [overburdenref07_Turned.l0, if_pos (by omega), if_pos (by omega), if_pos (by simp; omega), rdOf_nat hlt, wrap_id (x := (i : Int) + 1) (by omega) (by omega)]
    have e : (l.take i).map (!·) ++ [!l[i]] = (l.take (i + 1)).map (!·) := by
      rw [List.take_succ_eq_append_getElem hlt, List.map_append]; rfl
    rw [e]
    exact ih (i + 1) k (by omega) (by omega)
theorem ref_turned (l : List Bool) (k : Nat) (hl : l.length ≤ 4000) (hk : l.length + 1 ≤ k) : overburdenref07_Turned.f k l = some (l.map (!·)) := by
  have := turned_step l hl l.length 0 k (by omega) hk
  rw [overburdenref07_Turned.f]
  simpa using this

theorem turns_l0 (D : Nat) (A B : Int) (l : List Bool) (hD : 2 ≤ D) (hD2 : D ≤ 40) (hAB : A ≤ B) : ∀ m k K : Nat, k + m = D + 1 → m + 2000 ≤ K →
    overburdenlaw07_CountTurns.l0 K D (spansS (runS D A l Cn.start) D) (spansS (runS D B l Cn.start) D) (spansS (runS D A (l.map (!·)) Cn.start) D) k = some true := by
  intro m
  induction m with
  | zero =>
    intro k K hk hK
    obtain ⟨K, rfl⟩ : ∃ j, K = j + 1 := ⟨K - 1, by omega⟩
    rw [overburdenlaw07_CountTurns.l0, if_neg (by omega), known_true K (by omega)]
    rfl
  | succ m ih =>
    intro k K hk hK
    obtain ⟨K, rfl⟩ : ∃ j, K = j + 1 := ⟨K - 1, by omega⟩
    obtain ⟨j, hj⟩ : ∃ j, k + j = D := ⟨D - k, by omega⟩
    have l1 := spans_le (runS D A l Cn.start) (D := D) (by omega)
    have l2 := spans_le (runS D B l Cn.start) (D := D) (by omega)
    have l3 := spans_le (runS D A (l.map (!·)) Cn.start) (D := D) (by omega)
    have h1 := hasL_spans (runS D A l Cn.start) (show k ≤ D by omega)
    have h2 := hasL_spans (runS D B l Cn.start) (show k ≤ D by omega)
    have h3 := hasL_spans (runS D A (l.map (!·)) Cn.start) (show j ≤ D by omega)
    rw [runS_1] at h1 h2 h3
    have hb := behind_run (D := D) (A := A) (B := B) (k := k) hAB l (Cn.start k) (Cn.start k) (Or.inr ⟨rfl, rfl, rfl, rfl, rfl⟩)
    have ht := twin_run (D := D) (A := A) (k := k) (j := j) (by omega) (by omega) (by omega) l (Cn.start k) (Cn.start j) ⟨rfl, rfl, rfl, rfl⟩
    rw [ht] at h3
    have ih' := ih (k + 1) K (by omega) (by omega)
    rw [overburdenlaw07_CountTurns.l0, if_pos (by omega), wrap_id (x := (D : Int) - k) (by omega) (by omega), wrap_id (x := (k : Int) + 1) (by omega) (by omega), show (D : Int) - k = (j : Int) by omega]
    rw [law_has _ _ K (by omega) (by omega), law_has _ _ K (by omega) (by omega), law_has _ _ K (by omega) (by omega), h1, h2, h3]
    simp only [Option.bind_some, bne_self_eq_false]
    rcases hb with hb | ⟨hb, hb2⟩
    · rw [hb]
      simp only [Bool.not_true, Bool.false_eq_true, if_false]
      exact ih'
    · rw [hb, hb2]
      simp only [Bool.not_false, if_true, Bool.false_eq_true, if_false]
      exact ih'

theorem CountTurns (l : List Bool) (a1 A B : Int) (_ : l.length ≤ maxLen) (_ : (Lit.int .i64 a1).wf = true) (_ : (Lit.int .i64 A).wf = true) (_ : (Lit.int .i64 B).wf = true) :
    ∃ k, overburdenlaw07_CountTurns.f k l a1 A B = some true := by
  refine ⟨3000, ?_⟩
  have key : overburdenlaw07_CountTurns.j0 3000 l a1 A B true = some true := by
    rw [overburdenlaw07_CountTurns.j0, if_pos rfl, known_true _ (by omega)]; rfl
  unfold overburdenlaw07_CountTurns.f
  rw [law_level, law_level]
  simp only [Option.bind_some]
  split
  · exact key
  · split
    · exact key
    · split
      · exact key
      · split
        · split
          · rename_i hA hB
            rw [withinB_iff] at hA hB
            by_cases h : B < A
            · rw [decide_eq_true h]; exact key
            · rw [decide_eq_false h]
              obtain ⟨D, rfl⟩ := Int.eq_ofNat_of_zero_le (show 0 ≤ a1 by omega)
              rw [overburdenlaw07_CountTurns.j0, if_neg (by simp), ref_turned l _ (by omega) (by omega)]
              simp only [Option.bind_some]
              rw [kept_ok (by omega) (by omega) (by omega) hA.1 hA.2, kept_ok (by omega) (by omega) (by omega) hB.1 hB.2, kept_ok (by omega) (by omega) (by simp; omega) hA.1 hA.2]
              simp only [Option.bind_some, if_true, bne_self_eq_false]
              rw [overburdenlaw07_CountTurns.j1, if_neg (by simp)]
              exact turns_l0 D A B l (by omega) (by omega) (by omega) (D + 1) 0 2998 (by omega) (by omega)
          · exact key
        · exact key
end Go.Proofs.Ytgofaifmbjallaa.Pure
