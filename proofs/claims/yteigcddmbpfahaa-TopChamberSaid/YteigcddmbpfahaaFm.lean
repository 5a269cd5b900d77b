import Derived.Test.YteigcddmbpfahaaFh
namespace Go.Proofs.Yteigcddmbpfahaa.Cn
set_option linter.unusedVariables false

theorem fi_lt {α : Type} {p : α → Bool} {l : List α} (z : α) {j : Nat} (h : j < l.findIdx p) : p (l.getD j z) = false := by
  have := List.not_of_lt_findIdx h
  have hl : j < l.length := Nat.lt_of_lt_of_le h List.findIdx_le_length
  simpa [List.getD, List.getElem?_eq_getElem hl] using this
theorem fi_at {α : Type} {p : α → Bool} {l : List α} (z : α) (h : l.findIdx p < l.length) : p (l.getD (l.findIdx p) z) = true := by
  have := List.findIdx_getElem (w := h)
  simpa [List.getD, List.getElem?_eq_getElem h] using this
theorem fi_mono {α : Type} {p q : α → Bool} {l : List α} (z : α) (h : ∀ x, q x = true → p x = true) : l.findIdx p ≤ l.findIdx q := by
  rcases Nat.lt_or_ge (l.findIdx q) (l.findIdx p) with hlt | hge
  · have h1 := fi_lt z hlt
    have h2 := fi_at z (Nat.lt_of_lt_of_le hlt (List.findIdx_le_length (p := p)))
    rw [h _ h2] at h1
    cases h1
  · exact hge
theorem rng_up {l : List S66} {most : Int} (h : mono_rngG l most) : ∀ j i : Nat, i ≤ j → j < l.length →
    (rd_T66 l i).f1.f0 ≤ (rd_T66 l j).f1.f0 ∧ (rd_T66 l i).f1.f1 ≤ (rd_T66 l j).f1.f1 ∧ (i < j → (rd_T66 l i).f0 < (rd_T66 l j).f0)
  | 0, i, hi, hj => by obtain rfl : i = 0 := by omega
                       exact ⟨Int.le_refl _, Int.le_refl _, fun h => absurd h (by omega)⟩
  | j + 1, i, hi, hj => by
    rcases Nat.lt_or_ge i (j + 1) with hlt | hge
    · obtain ⟨h1, h2, h3⟩ := rng_up h j i (by omega) (by omega)
      obtain ⟨g1, g2, g3⟩ := (h (j + 1) hj).2.2.2.2.2 (by omega)
      rw [Nat.add_sub_cancel] at g1 g2 g3
      refine ⟨Int.le_trans h1 g2, Int.le_trans h2 g3, fun _ => ?_⟩
      rcases Nat.lt_or_ge i j with hh | hh
      · exact Int.lt_trans (h3 hh) g1
      · obtain rfl : i = j := by omega
        exact g1
    · obtain rfl : i = j + 1 := by omega
      exact ⟨Int.le_refl _, Int.le_refl _, fun h => absurd h (by omega)⟩
theorem sky_down {l : List S102} {most : Int} (h : mono_skyG l most) : ∀ j i : Nat, i ≤ j → j < l.length →
    (rd_T102 l j).f1.f0 ≤ (rd_T102 l i).f1.f0 ∧ (rd_T102 l j).f1.f1 ≤ (rd_T102 l i).f1.f1 ∧ (i < j → (rd_T102 l i).f0 < (rd_T102 l j).f0)
  | 0, i, hi, hj => by obtain rfl : i = 0 := by omega
                       exact ⟨Int.le_refl _, Int.le_refl _, fun h => absurd h (by omega)⟩
  | j + 1, i, hi, hj => by
    rcases Nat.lt_or_ge i (j + 1) with hlt | hge
    · obtain ⟨h1, h2, h3⟩ := sky_down h j i (by omega) (by omega)
      obtain ⟨g1, g2, g3⟩ := (h (j + 1) hj).2.2.2.2.2 (by omega)
      rw [Nat.add_sub_cancel] at g1 g2 g3
      refine ⟨Int.le_trans g2 h1, Int.le_trans g3 h2, fun _ => ?_⟩
      rcases Nat.lt_or_ge i j with hh | hh
      · exact Int.lt_trans (h3 hh) g1
      · obtain rfl : i = j := by omega
        exact g1
    · obtain rfl : i = j + 1 := by omega
      exact ⟨Int.le_refl _, Int.le_refl _, fun h => absurd h (by omega)⟩
theorem rdR (l : List S66) (i : Nat) : rd_T66 l (i : Int) = l.getD i z66 := by rw [rd_T66, Int.toNat_natCast]
theorem rdF (l : List S102) (i : Nat) : rd_T102 l (i : Int) = l.getD i z102 := by rw [rd_T102, Int.toNat_natCast]

theorem thr_ok {l : List S66} (h : RngG l) {t : Int} (ht : 0 ≤ t) : 1 ≤ thrL l t ∧ (thrH l t = -1 ∨ (1 ≤ thrH l t ∧ thrL l t ≤ thrH l t)) := by
  unfold thrL thrH
  rcases Classical.em (t = 0) with h0 | h0
  · rw [if_pos h0, if_pos h0]; omega
  · rw [if_neg h0, if_neg h0]
    have hle : l.findIdx (fun r : S66 => decide (t ≤ r.f1.f1)) ≤ l.length := List.findIdx_le_length
    have hA := fun j => fi_lt (l := l) (p := fun r : S66 => decide (t ≤ r.f1.f1)) z66 (j := j)
    have hB := fi_at (l := l) (p := fun r : S66 => decide (t ≤ r.f1.f0)) z66
    generalize l.findIdx (fun r : S66 => decide (t ≤ r.f1.f1)) = g1 at *
    generalize l.findIdx (fun r : S66 => decide (t ≤ r.f1.f0)) = g2 at *
    have hp : 0 < g1 → 1 ≤ (rd_T66 l ((g1 - 1 : Nat) : Int)).f0 := fun hg => (h.2.2 (g1 - 1) (by omega)).1
    refine ⟨?_, ?_⟩
    · split
      · have := hp (by assumption); omega
      · omega
    · rcases Nat.lt_or_ge g2 l.length with h2 | h2
      · right
        rw [if_pos h2]
        have hb := hB h2
        rw [← rdR] at hb
        have hb := of_decide_eq_true hb
        obtain ⟨e1, e2, e3, e4, e5, -⟩ := h.2.2 g2 h2
        refine ⟨e1, ?_⟩
        rcases Nat.eq_zero_or_pos g1 with h1 | h1
        · rw [if_neg (by omega)]; exact e1
        · rw [if_pos h1]
          have ha := hA (g1 - 1) (by omega)
          rw [← rdR] at ha
          have ha := of_decide_eq_false ha
          have hlt : g1 - 1 < g2 := by
            rcases Nat.lt_or_ge (g1 - 1) g2 with hh | hh
            · exact hh
            · have := (rng_up h.2.2 (g1 - 1) g2 hh (by omega)).2.1
              omega
          have := (rng_up h.2.2 g2 (g1 - 1) (by omega) h2).2.2 hlt
          omega
      · left
        rw [if_neg (by omega)]
theorem thr_mono {l : List S66} (h : RngG l) {s t : Int} (hs : 0 ≤ s) (hst : s ≤ t) : thrL l s ≤ thrL l t ∧ (thrH l t = -1 ∨ (thrH l s ≠ -1 ∧ thrH l s ≤ thrH l t)) := by
  have hok := thr_ok h (show 0 ≤ t by omega)
  have hok2 := thr_ok h hs
  rcases Classical.em (s = 0) with h0 | h0
  · have e1 : thrL l s = 1 := by unfold thrL; rw [if_pos h0]
    have e2 : thrH l s = 1 := by unfold thrH; rw [if_pos h0]
    omega
  · have h1 : ¬ t = 0 := by omega
    have hm1 : l.findIdx (fun r : S66 => decide (s ≤ r.f1.f1)) ≤ l.findIdx (fun r : S66 => decide (t ≤ r.f1.f1)) := fi_mono z66 (fun x hx => decide_eq_true (Int.le_trans hst (of_decide_eq_true hx)))
    have hm2 : l.findIdx (fun r : S66 => decide (s ≤ r.f1.f0)) ≤ l.findIdx (fun r : S66 => decide (t ≤ r.f1.f0)) := fi_mono z66 (fun x hx => decide_eq_true (Int.le_trans hst (of_decide_eq_true hx)))
    have hle : l.findIdx (fun r : S66 => decide (t ≤ r.f1.f1)) ≤ l.length := List.findIdx_le_length
    unfold thrL thrH at *
    rw [if_neg h0] at hok2 ⊢
    rw [if_neg h0] at hok2 ⊢
    rw [if_neg h1] at hok ⊢
    rw [if_neg h1] at hok ⊢
    generalize l.findIdx (fun r : S66 => decide (s ≤ r.f1.f1)) = g1 at *
    generalize l.findIdx (fun r : S66 => decide (t ≤ r.f1.f1)) = g2 at *
    generalize l.findIdx (fun r : S66 => decide (s ≤ r.f1.f0)) = k1 at *
    generalize l.findIdx (fun r : S66 => decide (t ≤ r.f1.f0)) = k2 at *
    refine ⟨?_, ?_⟩
    · rcases Nat.eq_zero_or_pos g1 with z1 | z1
      · rw [if_neg (show ¬ 0 < g1 by omega)]; exact hok.1
      · rw [if_pos z1, if_pos (show 0 < g2 by omega)]
        rcases Nat.lt_or_ge (g1 - 1) (g2 - 1) with hh | hh
        · have := (rng_up h.2.2 (g2 - 1) (g1 - 1) (by omega) (by omega)).2.2 hh
          omega
        · rw [show g1 = g2 by omega]; omega
    · rcases Nat.lt_or_ge k2 l.length with z2 | z2
      · right
        have hx := (h.2.2 k1 (by omega)).1
        rw [if_pos z2, if_pos (show k1 < l.length by omega)]
        refine ⟨by omega, ?_⟩
        rcases Nat.lt_or_ge k1 k2 with hh | hh
        · have := (rng_up h.2.2 k2 k1 (by omega) z2).2.2 hh
          omega
        · rw [show k1 = k2 by omega]; omega
      · left; rw [if_neg (by omega)]
theorem above_ok {P : Int} {l : List S102} (h : BinG P l) {tl th : Int} (ht : th = -1 ∨ tl ≤ th) : 0 ≤ aboveL l tl th ∧ aboveL l tl th ≤ aboveH l tl ∧ aboveH l tl ≤ P := by
  unfold aboveL aboveH
  have hle : l.findIdx (fun r : S102 => decide (tl < r.f0)) ≤ l.length := List.findIdx_le_length
  have hA := fun j => fi_lt (l := l) (p := fun r : S102 => decide (tl < r.f0)) z102 (j := j)
  have hB := fi_at (l := l) (p := fun r : S102 => decide (th ≤ r.f0)) z102
  have hn := h.1
  generalize l.findIdx (fun r : S102 => decide (tl < r.f0)) = f1 at *
  generalize l.findIdx (fun r : S102 => decide (th ≤ r.f0)) = f2 at *
  obtain ⟨-, -, p3, p4, p5, -⟩ := h.2.2.1 (f1 - 1) (by omega)
  rcases Classical.em (th = -1) with h0 | h0
  · rw [if_pos h0]; omega
  · rw [if_neg h0]
    rcases Nat.lt_or_ge f2 l.length with h2 | h2
    · rw [if_pos h2]
      obtain ⟨-, -, q3, q4, q5, -⟩ := h.2.2.1 f2 h2
      have hge : f1 - 1 ≤ f2 := by
        rcases Nat.lt_or_ge f2 (f1 - 1) with hh | hh
        · have hb := hB h2
          rw [← rdF] at hb
          have hb := of_decide_eq_true hb
          have ha := hA (f1 - 1) (by omega)
          rw [← rdF] at ha
          have ha := of_decide_eq_false ha
          have := (sky_down h.2.2.1 (f1 - 1) f2 (by omega) (by omega)).2.2 hh
          rcases ht with ht | ht <;> omega
        · exact hh
      have := (sky_down h.2.2.1 f2 (f1 - 1) hge h2).2.1
      omega
    · rw [if_neg (by omega)]; omega
theorem above_mono {P : Int} {l : List S102} (h : BinG P l) {tl th sl sh : Int} (h1 : sl ≤ tl) (h2 : th = -1 ∨ (sh ≠ -1 ∧ sh ≤ th)) (hsh : sh = -1 ∨ sl ≤ sh) : aboveL l tl th ≤ aboveL l sl sh ∧ aboveH l tl ≤ aboveH l sl := by
  have hok := above_ok h hsh
  unfold aboveL aboveH at *
  have hm1 : l.findIdx (fun r : S102 => decide (sl < r.f0)) ≤ l.findIdx (fun r : S102 => decide (tl < r.f0)) := fi_mono z102 (fun x hx => decide_eq_true (Int.lt_of_le_of_lt h1 (of_decide_eq_true hx)))
  have hle : l.findIdx (fun r : S102 => decide (tl < r.f0)) ≤ l.length := List.findIdx_le_length
  have hm2 : sh ≤ th → l.findIdx (fun r : S102 => decide (sh ≤ r.f0)) ≤ l.findIdx (fun r : S102 => decide (th ≤ r.f0)) := fun hh => fi_mono z102 (fun x hx => decide_eq_true (Int.le_trans hh (of_decide_eq_true hx)))
  have hn := h.1
  generalize l.findIdx (fun r : S102 => decide (sl < r.f0)) = f1 at *
  generalize l.findIdx (fun r : S102 => decide (tl < r.f0)) = f2 at *
  generalize l.findIdx (fun r : S102 => decide (sh ≤ r.f0)) = g1 at *
  generalize l.findIdx (fun r : S102 => decide (th ≤ r.f0)) = g2 at *
  refine ⟨?_, (sky_down h.2.2.1 (f2 - 1) (f1 - 1) (by omega) (by omega)).2.1⟩
  rcases Classical.em (th = -1) with h0 | h0
  · rw [if_pos h0]; exact hok.1
  · rw [if_neg h0]
    obtain ⟨k1, k2⟩ := h2.resolve_left h0
    rcases Nat.lt_or_ge g2 l.length with hg | hg
    · rw [if_pos hg, if_neg k1, if_pos (show g1 < l.length by have := hm2 k2; omega)]
      exact (sky_down h.2.2.1 g2 g1 (hm2 k2) hg).1
    · rw [if_neg (by omega)]; exact hok.1
theorem exp_ok {P b0 b1 a0 a1 : Int} {bins : List (List S102)} {lt : List S66} (hg : SkyG P bins b0 b1 a0 a1) (hl : RngG lt) {k t : Int} (hk0 : 0 ≤ k) (hk1 : k < bins.length) (ht : 0 ≤ t) :
    0 ≤ expL bins lt k t ∧ expL bins lt k t ≤ expH bins lt k t ∧ expH bins lt k t ≤ P := by
  obtain ⟨K, rfl⟩ := Int.eq_ofNat_of_zero_le hk0
  have h := thr_ok hl ht
  exact above_ok (hg.bin K (by omega)) (by rcases h.2 with h | h; exact .inl h; exact .inr h.2)
theorem exp_mono {P b0 b1 a0 a1 : Int} {bins : List (List S102)} {lt : List S66} (hg : SkyG P bins b0 b1 a0 a1) (hl : RngG lt) {k s t : Int} (hk0 : 0 ≤ k) (hk1 : k < bins.length) (hs : 0 ≤ s) (hst : s ≤ t) :
    expL bins lt k t ≤ expL bins lt k s ∧ expH bins lt k t ≤ expH bins lt k s := by
  obtain ⟨K, rfl⟩ := Int.eq_ofNat_of_zero_le hk0
  have h := thr_ok hl hs
  have hm := thr_mono hl hs hst
  exact above_mono (hg.bin K (by omega)) hm.1 hm.2 (by rcases h.2 with h | h; exact .inl h; exact .inr h.2)
end Go.Proofs.Yteigcddmbpfahaa.Cn
