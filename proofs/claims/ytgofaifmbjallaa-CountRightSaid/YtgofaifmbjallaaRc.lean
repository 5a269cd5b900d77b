import Derived.Test.YtgofaifmbjallaaPax12
import Derived.Test.YtgofaifmbjallaaHs
import Derived.Test.YtgofaifmbjallaaRb
/-! What the reference tells of capital, and of when a rate is excluded. -/
namespace Go.Proofs.Ytgofaifmbjallaa.Pure
open Go.RowKit Go.Proofs.Ytgofaifmbjallaa.Pa Go.Proofs.YtgofaifmbjallaaW.PrintWords Go.Proofs.YtgofaifmbjallaaW.PrintLast Go.Proofs.YtgofaifmbjallaaW.PrintMore
open Go.Proofs.Ytgofaifmbjallaa.Cn

theorem cls_last (D k : Int) : ∀ (l : List Bool) (n h c : Int), (c :: cls D k l n h c)[l.length]? = some (cst D k l n h c).2.2
  | [], n, h, c => rfl
  | x :: l, n, h, c => by
    have := cls_last D k l (n + 1) (h + b2i x) (moveV x D n h k c)
    simp only [cls, cst, List.length_cons, List.getElem?_cons_succ]
    exact this

theorem capital_step (l : List Bool) (D r : Int) (hD : 2 ≤ D) (hD2 : D ≤ 1000) (hr : 0 ≤ r) (hr2 : r ≤ D) (hl : l.length ≤ 4000) : ∀ m i k : Nat, i + m = l.length → m + 3 ≤ k →
    overburdenref07_Capital.l0 k l D r (1048576 :: cls D r (l.take i) 0 0 1048576) (cst D r (l.take i) 0 0 1048576).2.1 i = some (1048576 :: cls D r l 0 0 1048576) := by
  intro m
  induction m with
  | zero =>
    intro i k hi hk
    obtain ⟨k, rfl⟩ : ∃ j, k = j + 1 := ⟨k - 1, by omega⟩
    rw [overburdenref07_Capital.l0, if_neg (by omega), List.take_of_length_le (by omega)]
  | succ m ih =>
    intro i k hi hk
    obtain ⟨k, rfl⟩ : ∃ j, k = j + 3 := ⟨k - 3, by omega⟩
    have hlt : i < l.length := by omega
    have ht : (l.take i).length = i := by simp; omega
    obtain ⟨c1, c2, c3, c4, c5⟩ := cst_inv hD hr hr2 (l.take i) 0 0 1048576 (by omega) (by omega) (by omega) (by omega)
    have hlast := cls_last D r (l.take i) 0 0 1048576
    rw [ht] at hlast c1
    have hrd : rd (1048576 :: cls D r (l.take i) 0 0 1048576) (i : Int) = (cst D r (l.take i) 0 0 1048576).2.2 := by
      rw [rd, Int.toNat_natCast, List.getD_eq_getElem?_getD, hlast]; rfl
    have hlen : (1048576 :: cls D r (l.take i) 0 0 1048576).length = i + 1 := by rw [List.length_cons, cls_len, ht]
    have e : l.take (i + 1) = l.take i ++ [l[i]] := List.take_succ_eq_append_getElem hlt
    have ih' := ih (i + 1) (k + 2) (by omega) (by omega)
    rw [e, cls_snoc, cst_snoc] at ih'
    have hbet := ref_bet (c := (cst D r (l.take i) 0 0 1048576).2.2) (n := i) (h := (cst D r (l.take i) 0 0 1048576).2.1) (D := D) (r := r) hD2 hD (by omega) (by omega) c2 (by omega) c4 c5 hr hr2 k
    rw [overburdenref07_Capital.l0, if_pos (by omega), if_pos (by omega), if_pos (by rw [hlen]; omega), hrd, hbet]
    simp only [Option.bind_some]
    rw [rdOf_nat hlt, wrap_id (x := (i : Int) + 1) (by omega) (by omega), wrap_id (x := (cst D r (l.take i) 0 0 1048576).2.1 + 1) (by omega) (by omega)]
    have c1' : (cst D r (l.take i) 0 0 1048576).1 = (i : Int) := by omega
    rw [c1'] at ih'
    cases hx : l[i]
    · rw [hx] at ih'
      simp only [moveV, b2i, Bool.false_eq_true, if_false, Int.add_zero] at ih'
      rw [if_neg (by simp), if_pos (by rw [hlen]; omega)]
      exact ih'
    · rw [hx] at ih'
      simp only [moveV, b2i, if_true] at ih'
      rw [if_pos rfl, if_pos (by rw [hlen]; omega)]
      exact ih'
theorem ref_capital (l : List Bool) (D r : Int) (k : Nat) (hD : 2 ≤ D) (hD2 : D ≤ 1000) (hr : 0 ≤ r) (hr2 : r ≤ D) (hl : l.length ≤ 4000) (hk : l.length + 3 ≤ k) :
    overburdenref07_Capital.f k l D r = some (1048576 :: cls D r l 0 0 1048576) := by
  have := capital_step l D r hD hD2 hr hr2 hl l.length 0 k (by omega) hk
  rw [overburdenref07_Capital.f]
  simpa [cls, cst] using this

/-- the first number that is at least some number, counted from i on; -1, if there is none -/
def exL (T : Int) : List Int → Int → Int
  | [], _ => -1
  | c :: L, i => if T ≤ c then i else exL T L (i + 1)
theorem exL_ge (T : Int) : ∀ (L : List Int) (i : Int), 0 ≤ i → exL T L i = -1 ∨ (i ≤ exL T L i ∧ exL T L i < i + L.length)
  | [], i, _ => Or.inl rfl
  | c :: L, i, h => by
    rw [exL]
    split
    · right; simp; omega
    · rcases exL_ge T L (i + 1) (by omega) with h1 | h1
      · exact Or.inl h1
      · right; simp; omega
theorem excl_step (A : Int) (L : List Int) (hL : L.length ≤ 4100) (hA : 0 ≤ A) (hA2 : A ≤ 1000000) : ∀ m i k : Nat, i + m = L.length → m + 1 ≤ k →
    overburdenref07_Excluded.l0 k A L i = some (exL (A * 1048576) (L.drop i) i) := by
  intro m
  induction m with
  | zero =>
    intro i k hi hk
    obtain ⟨k, rfl⟩ : ∃ j, k = j + 1 := ⟨k - 1, by omega⟩
    rw [overburdenref07_Excluded.l0, if_neg (by omega), List.drop_of_length_le (by omega), exL]
  | succ m ih =>
    intro i k hi hk
    obtain ⟨k, rfl⟩ : ∃ j, k = j + 1 := ⟨k - 1, by omega⟩
    have hlt : i < L.length := by omega
    have hr : rd L (i : Int) = L[i] := by simp [rd, hlt]
    rw [overburdenref07_Excluded.l0, if_pos (by omega), if_pos (by omega), hr, List.drop_eq_getElem_cons hlt, exL, wrap_id (x := A * 1048576) (by omega) (by omega), wrap_id (x := (i : Int) + 1) (by omega) (by omega)]
    have ih' := ih (i + 1) k (by omega) (by omega)
    by_cases h : A * 1048576 ≤ L[i]
    · rw [if_pos h, if_pos h]
    · rw [if_neg h, if_neg h]; exact ih'

/-- a rate is excluded in the machine when the reference says so -/
theorem run_excl {D A : Int} {k : Nat} : ∀ (l : List Bool) (s : KS), s.out = false → 0 ≤ s.n →
    (run1 D A k l s).out = decide (0 ≤ exL (A * 1048576) (cls D k l s.n s.h s.c) (s.n + 1)) ∧ ((run1 D A k l s).out = true → (run1 D A k l s).at_ = exL (A * 1048576) (cls D k l s.n s.h s.c) (s.n + 1))
  | [], s, ho, h0 => by
    refine ⟨?_, fun h => ?_⟩
    · rw [run1, ho]; rfl
    · rw [run1, ho] at h; cases h
  | x :: l, s, ho, h0 => by
    have hs : KS.step D A x k s = ⟨s.n + 1, s.h + b2i x, moveV x D s.n s.h k s.c, decide (A * 1048576 ≤ moveV x D s.n s.h k s.c), if A * 1048576 ≤ moveV x D s.n s.h k s.c then s.n + 1 else s.at_⟩ := by
      unfold KS.step; rw [if_neg (by simp [ho])]
    rw [run1, hs, cls, exL]
    by_cases hc : A * 1048576 ≤ moveV x D s.n s.h k s.c
    · have hstay : ∀ (l : List Bool) (t : KS), t.out = true → run1 D A k l t = t := by
        intro l
        induction l with
        | nil => intros; rfl
        | cons y l ih => intro t ht; rw [run1, worth_out k y ht]; exact ih t ht
      rw [hstay l _ (decide_eq_true hc), if_pos hc, if_pos hc]
      refine ⟨?_, fun _ => rfl⟩
      simp only [decide_eq_true hc]
      exact (decide_eq_true (by omega)).symm
    · have ih := run_excl (D := D) (A := A) (k := k) l ⟨s.n + 1, s.h + b2i x, moveV x D s.n s.h k s.c, false, s.at_⟩ rfl (by simp only; omega)
      rw [if_neg hc, if_neg hc, decide_eq_false hc]
      exact ih

/-- after how many slots a rate is excluded; -1, if it is not -/
def timeV (D A : Int) (l : List Bool) (k : Nat) : Int := if (run1 D A k l (Cn.start k)).out = true then (run1 D A k l (Cn.start k)).at_ else -1
theorem timeV_nn {D A : Int} {l : List Bool} {k : Nat} : (run1 D A k l (Cn.start k)).out = decide (0 ≤ timeV D A l k) ∧ (timeV D A l k = -1 ∨ (1 ≤ timeV D A l k ∧ timeV D A l k ≤ l.length)) := by
  have h : (run1 D A k l (Cn.start k)).out = decide (0 ≤ exL (A * 1048576) (cls D k l 0 0 1048576) 1) ∧ ((run1 D A k l (Cn.start k)).out = true → (run1 D A k l (Cn.start k)).at_ = exL (A * 1048576) (cls D k l 0 0 1048576) 1) :=
    run_excl (D := D) (A := A) (k := k) l (Cn.start k) rfl (by simp [Cn.start])
  have hg := exL_ge (A * 1048576) (cls D k l 0 0 1048576) 1 (by omega)
  rw [cls_len] at hg
  unfold timeV
  by_cases ho : (run1 D A k l (Cn.start k)).out = true
  · have h2 := h.2 ho
    rw [ho] at h
    have h1 := of_decide_eq_true h.1.symm
    rw [if_pos ho, ho, h2]
    refine ⟨(decide_eq_true h1).symm, ?_⟩
    omega
  · rw [if_neg ho, Bool.eq_false_iff.2 ho]
    exact ⟨rfl, Or.inl rfl⟩
theorem ref_excluded (l : List Bool) (D A : Int) (r k : Nat) (hD : 2 ≤ D) (hD2 : D ≤ 1000) (hr2 : (r : Int) ≤ D) (hA : 2 ≤ A) (hA2 : A ≤ 900000) (hl : l.length ≤ 4000) (hk : l.length + 3 ≤ k) :
    overburdenref07_Excluded.f k l D A r = some (timeV D A l r) := by
  rw [overburdenref07_Excluded.f, ref_capital l D r k hD hD2 (by omega) hr2 hl hk]
  simp only [Option.bind_some]
  have hs := excl_step A (1048576 :: cls D r l 0 0 1048576) (by rw [List.length_cons, cls_len]; omega) (by omega) (by omega) (l.length + 1) 0 k (by rw [List.length_cons, cls_len]; omega) (by omega)
  have h : (run1 D A r l (Cn.start r)).out = decide (0 ≤ exL (A * 1048576) (cls D r l 0 0 1048576) 1) ∧ ((run1 D A r l (Cn.start r)).out = true → (run1 D A r l (Cn.start r)).at_ = exL (A * 1048576) (cls D r l 0 0 1048576) 1) :=
    run_excl (D := D) (A := A) (k := r) l (Cn.start r) rfl (by simp [Cn.start])
  have hg := exL_ge (A * 1048576) (cls D r l 0 0 1048576) 1 (by omega)
  simp only [Int.natCast_zero, List.drop_zero, exL] at hs
  rw [if_neg (by omega), Int.zero_add] at hs
  refine hs.trans ?_
  unfold timeV
  by_cases ho : (run1 D A r l (Cn.start r)).out = true
  · rw [if_pos ho, h.2 ho]
  · rw [if_neg ho, Option.some.injEq]
    rw [Bool.eq_false_iff.2 ho] at h
    have := of_decide_eq_false h.1.symm
    omega
end Go.Proofs.Ytgofaifmbjallaa.Pure
