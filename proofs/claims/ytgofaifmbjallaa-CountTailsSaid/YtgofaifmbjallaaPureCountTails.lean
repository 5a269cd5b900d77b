import Derived.Test.YtgofaifmbjallaaPax9
import Derived.Test.YtgofaifmbjallaaSu
import Derived.Test.YtgofaifmbjallaaKn
/-! The pure law CountTails. -/
namespace Go.Proofs.Ytgofaifmbjallaa.Pure
open Go.RowKit Go.Proofs.Ytgofaifmbjallaa.Pa Go.Proofs.YtgofaifmbjallaaW.PrintWords Go.Proofs.YtgofaifmbjallaaW.PrintLast Go.Proofs.YtgofaifmbjallaaW.PrintMore
open Go.Proofs.Ytgofaifmbjallaa.Cn

theorem ref_parts (D : Int) : overburdenref07_Parts.f D = some (withinB D 2 1000) := by
  unfold overburdenref07_Parts.f overburdenref07_in.f withinB
  by_cases h : 2 ≤ D
  · rw [if_pos h]; simp [h]
  · rw [if_neg h]; simp [h]
theorem wholeL_err (D : Int) : ∀ (i : Nat) (n : Int), (wholeL D i n).2 = 0 ∨ (wholeL D i n).2 = 3
  | 0, n => Or.inl rfl
  | i + 1, n => by
    rw [wholeL]; split
    · exact Or.inr rfl
    · exact wholeL_err D i _
/-- a tail's summand -/
def tF (D k h : Int) (l : List Bool) : Int := if h ≤ hitsN l then wT D k l else 0
theorem tF_nn {D k h : Int} (hk : 0 ≤ k) (hk2 : k ≤ D) (l : List Bool) : 0 ≤ tF D k h l := by
  unfold tF; split
  · exact wT_nn hk hk2 l
  · omega
theorem tF_le {D k h : Int} (hk : 0 ≤ k) (hk2 : k ≤ D) (l : List Bool) : tF D k h l ≤ wT D k l := by
  unfold tF; split
  · omega
  · exact wT_nn hk hk2 l
theorem tail_T {s : Nat} {D k h : Int} (hk : 0 ≤ k) (hk2 : k ≤ D) (hD : 1 ≤ D) (hD2 : D ≤ 1000) (hb : pw D s ≤ 1152921504606846976) :
    ∀ b, b ≤ 2 ^ s → tailS s D k h b = sumN (fun b => tF D k h (outL s b)) b ∧ sumN (fun b => tF D k h (outL s b)) b ≤ 1152921504606846976 := by
  have hall : ∀ b, b ≤ 2 ^ s → sumN (fun b => tF D k h (outL s b)) b ≤ 1152921504606846976 := by
    intro b hbs
    refine Int.le_trans (sumN_up (fun b => tF_nn hk hk2 _) (2 ^ s) hbs) ?_
    rw [sumN_L s (tF D k h)]
    refine Int.le_trans (sumL_le s _ (wT D k) (fun l _ => tF_le hk hk2 l)) ?_
    rw [sumL_w]; exact hb
  intro b
  induction b with
  | zero => intro _; simp [tailS, sumN]
  | succ b ih =>
    intro hbs
    have h1 := (ih (by omega)).1
    have h2 := hall (b + 1) hbs
    refine ⟨?_, h2⟩
    have hp := pw_pos hD s
    have hw : wV D k (outL s b) 1 = wT D k (outL s b) := by
      rw [wV_T hk hk2 hD (by omega) _ 1 (by omega) (by rw [outL_len]; omega)]; omega
    have h0 : 0 ≤ sumN (fun b => tF D k h (outL s b)) b := sumN_nn b (fun b _ => tF_nn hk hk2 _)
    have h3 := wT_nn hk hk2 (outL s b)
    rw [tailS, sumN, h1, hw]
    rw [sumN] at h2
    unfold tF at h2 ⊢
    unfold tF at h0
    split
    · rename_i hh
      rw [if_pos hh] at h2
      rw [wrap_id (by omega) (by omega)]
    · omega

theorem tT_succ (D k h : Int) (n : Nat) : sumL (n + 1) (tF D k h) = (D - k) * sumL n (tF D k h) + k * sumL n (tF D k (h - 1)) := by
  rw [sumL, ← sumL_mul, ← sumL_mul]
  congr 1
  · apply sumL_congr
    intro l _
    unfold tF
    simp only [hitsN, wT, b2i, Bool.false_eq_true, if_false, Int.zero_add]
    split <;> simp
  · apply sumL_congr
    intro l _
    unfold tF
    simp only [hitsN, wT, b2i, if_true]
    by_cases hh : h ≤ 1 + hitsN l
    · rw [if_pos hh, if_pos (by omega)]
    · rw [if_neg hh, if_neg (by omega)]; simp
theorem tT_less {D k : Int} (hk : 0 ≤ k) (hk2 : k ≤ D) (n : Nat) (h : Int) : sumL n (tF D k h) ≤ sumL n (tF D k (h - 1)) := by
  apply sumL_le
  intro l _
  unfold tF
  have := wT_nn hk hk2 l
  split
  · rw [if_pos (by omega)]; omega
  · split <;> omega
/-- a greater rate never makes a tail lighter -/
theorem tT_mono {D k : Int} (hk : 0 ≤ k) (hk2 : k + 1 ≤ D) : ∀ (n : Nat) (h : Int), sumL n (tF D k h) ≤ sumL n (tF D (k + 1) h)
  | 0, h => by
    simp only [sumL, tF, wT]
    omega
  | n + 1, h => by
    have a1 := tT_mono hk hk2 n h
    have a2 := tT_mono hk hk2 n (h - 1)
    have a3 := tT_less (D := D) (k := k + 1) (by omega) hk2 n h
    rw [tT_succ, tT_succ]
    generalize sumL n (tF D k h) = x at *
    generalize sumL n (tF D (k + 1) h) = x' at *
    generalize sumL n (tF D k (h - 1)) = y at *
    generalize sumL n (tF D (k + 1) (h - 1)) = y' at *
    have b1 : (D - k) * x ≤ (D - k) * x' := Int.mul_le_mul_of_nonneg_left a1 (by omega)
    have b2 : k * y ≤ k * y' := Int.mul_le_mul_of_nonneg_left a2 hk
    have e1 : (D - (k + 1)) * x' = (D - k) * x' - x' := by rw [← Int.sub_sub, Int.sub_mul (D - k) 1 x', Int.one_mul]
    have e2 : (k + 1) * y' = k * y' + y' := by rw [Int.add_mul, Int.one_mul]
    rw [e1, e2]; omega

theorem shl_one (s : Nat) (hs : s ≤ 60) : shl .i64 1 (s : Int) = ((2 ^ s : Nat) : Int) := by
  have : (2 : Nat) ^ s ≤ 2 ^ 60 := Nat.pow_le_pow_right (by omega) hs
  unfold shl
  rw [Int.toNat_natCast, Nat.min_eq_left (by simp [IntKind.bits]; omega), IntKind.wrap_i64, Int.one_mul]
  have e : ((2 : Int) ^ s) = ((2 ^ s : Nat) : Int) := by simp
  rw [e]
  generalize (2 : Nat) ^ s = m at *
  omega
theorem hits_step (l : List Bool) (hl : l.length ≤ 4000) : ∀ m i k : Nat, ∀ n : Int, i + m = l.length → m + 1 ≤ k → 0 ≤ n → n ≤ i →
    overburdenref07_Hits.l0 k l n i = some (n + hitsN (l.drop i)) := by
  intro m
  induction m with
  | zero =>
    intro i k n hi hk _ _
    obtain ⟨k, rfl⟩ : ∃ j, k = j + 1 := ⟨k - 1, by omega⟩
    rw [overburdenref07_Hits.l0, if_neg (by omega), List.drop_of_length_le (by omega), hitsN]; simp
  | succ m ih =>
    intro i k n hi hk hn hn2
    obtain ⟨k, rfl⟩ : ∃ j, k = j + 1 := ⟨k - 1, by omega⟩
    have hlt : i < l.length := by omega
    rw [overburdenref07_Hits.l0, if_pos (by omega), if_pos (by omega), rdOf_nat hlt, List.drop_eq_getElem_cons hlt, hitsN, wrap_id (x := (i : Int) + 1) (by omega) (by omega), wrap_id (x := n + 1) (by omega) (by omega)]
    cases h : l[i]
    · rw [if_neg (by simp)]
      refine (ih (i + 1) k n (by omega) (by omega) hn (by omega)).trans ?_
      simp [b2i]
    · rw [if_pos rfl]
      refine (ih (i + 1) k (n + 1) (by omega) (by omega) (by omega) (by omega)).trans ?_
      simp [b2i]; omega
theorem ref_hits (l : List Bool) (k : Nat) (hl : l.length ≤ 4000) (hk : l.length + 1 ≤ k) : overburdenref07_Hits.f k l = some (hitsN l) := by
  rw [overburdenref07_Hits.f]
  have := hits_step l hl l.length 0 k 0 (by omega) hk (by omega) (by omega)
  simpa using this

theorem tail_step (s : Nat) (D r h : Int) (hs : s ≤ 12) (hD : 0 ≤ D) (hD2 : D ≤ 1000) (hr : 0 ≤ r) (hr2 : r ≤ 1000) : ∀ m b k : Nat, b + m = 2 ^ s → m + s + 2 ≤ k →
    overburdenref07_Tail.l0 k s D r h (tailS s D r h b) b = some (tailS s D r h (2 ^ s)) := by
  have hN : 2 ^ s ≤ 4096 := Nat.pow_le_pow_right (n := 2) (by omega) hs
  intro m
  induction m with
  | zero =>
    intro b k hb hk
    obtain ⟨k, rfl⟩ : ∃ j, k = j + 1 := ⟨k - 1, by omega⟩
    rw [overburdenref07_Tail.l0, if_pos (by omega), shl_one s (by omega), if_neg (by omega)]
    obtain rfl : b = 2 ^ s := by omega
    rfl
  | succ m ih =>
    intro b k hb hk
    obtain ⟨k, rfl⟩ : ∃ j, k = j + 1 := ⟨k - 1, by omega⟩
    have hn := ih (b + 1) k (by omega) (by omega)
    rw [overburdenref07_Tail.l0, if_pos (by omega), shl_one s (by omega), if_pos (by omega), ref_outcome s b k (by omega) (by omega)]
    simp only [Option.bind_some]
    rw [ref_hits _ k (by rw [outL_len]; omega) (by rw [outL_len]; omega), ref_weight _ D r k hD (by omega) hr (by omega) (by rw [outL_len]; omega) (by rw [outL_len]; omega), wrap_id (x := (b : Int) + 1) (by omega) (by omega)]
    simp only [Option.bind_some]
    rw [tailS] at hn
    split
    · rename_i hh
      rw [if_pos hh] at hn
      exact hn
    · rename_i hh
      rw [if_neg hh] at hn
      exact hn
theorem ref_tail (s : Nat) (D r h : Int) (k : Nat) (hs : s ≤ 12) (hD : 0 ≤ D) (hD2 : D ≤ 1000) (hr : 0 ≤ r) (hr2 : r ≤ 1000) (hk : 4096 + 14 ≤ k) :
    overburdenref07_Tail.f k s D r h = some (tailS s D r h (2 ^ s)) := by
  have hN : 2 ^ s ≤ 4096 := Nat.pow_le_pow_right (n := 2) (by omega) hs
  have := tail_step s D r h hs hD hD2 hr hr2 (2 ^ s) 0 k (by omega) (by omega)
  rw [overburdenref07_Tail.f]
  simpa [tailS] using this

theorem wf_bd {x : Int} (h : (Lit.int .i64 x).wf = true) : -9223372036854775808 ≤ x ∧ x ≤ 9223372036854775807 := by
  simp [Lit.wf, IntKind.min, IntKind.max, IntKind.signed, IntKind.bits] at h
  omega
theorem j3_ok (K : Nat) (s : Nat) (D r h : Int) (hK : 10 ≤ K) (hw : (wholeV s D).2 = 0) (hok : tailOk s D r h = true) :
    overburdenlaw07_CountTails.j3 (K + 1) s D r h (tailS s D r h (2 ^ s)) false = some true := by
  obtain ⟨d1, d2, d3, d4⟩ := wholeV_ok hw
  obtain ⟨p1, p2⟩ := whole_T hw
  rw [tailOk, Bool.and_eq_true, withinB_iff, withinB_iff] at hok
  obtain ⟨⟨r1, r2⟩, h1, h2⟩ := hok
  rw [overburdenlaw07_CountTails.j3, if_neg (by simp), known_true K hK]
  simp only [Option.bind_some]
  split
  · rfl
  · rename_i hne
    have hok2 : tailOk s D (r + 1) h = true := by rw [tailOk, Bool.and_eq_true, withinB_iff, withinB_iff]; omega
    have e1 := tail_T (s := s) (D := D) (k := r) (h := h) r1 r2 (by omega) d2 p2 (2 ^ s) (Nat.le_refl _)
    have e2 := tail_T (s := s) (D := D) (k := r + 1) (h := h) (by omega) (by omega) (by omega) d2 p2 (2 ^ s) (Nat.le_refl _)
    have e3 := tT_mono (D := D) (k := r) r1 (by omega) s h
    rw [wrap_id (x := r + 1) (by omega) (by omega), count_Tail.f, if_pos hw, if_pos hok2]
    simp only [Option.bind_some, Int.toNat_natCast]
    rw [e1.1, e2.1, sumN_L s (tF D r h), sumN_L s (tF D (r + 1) h), if_pos trivial, if_pos e3]

theorem CountTails : overburdenlaw07_CountTails.Pure := by
  intro a0 D r h w0 _ _ w3
  have b0 := wf_bd w0
  have b3 := wf_bd w3
  refine ⟨4096 + 30, ?_⟩
  have key : overburdenlaw07_CountTails.j0 (4096 + 30) a0 D r h true = some true := by
    rw [overburdenlaw07_CountTails.j0, if_pos rfl, known_true _ (by omega)]; rfl
  have main : (a0 ≤ 8 ∨ 12 < a0) → overburdenlaw07_CountTails.j0 (4096 + 30) a0 D r h false = some true := by
    intro hs
    rw [overburdenlaw07_CountTails.j0, if_neg (by simp), ref_parts]
    simp only [Option.bind_some]
    by_cases hbad : ¬ (2 ≤ D ∧ D ≤ 1000) ∨ a0 < 0
    · have hwv : wholeV a0 D = (0, 2) := by rw [wholeV, if_pos hbad]
      have hbadj : overburdenlaw07_CountTails.j1 (4096 + 29) a0 D r h 0 2 true = some true := by
        rw [overburdenlaw07_CountTails.j1, if_pos rfl, if_pos rfl, if_pos rfl, known_true _ (by omega)]; rfl
      rw [count_Tail.f, hwv]
      simp only [show ¬ ((2 : Int) = 0) by decide, if_false, Option.bind_some]
      split
      · rename_i hp
        rw [withinB_iff] at hp
        rw [show decide (a0 < 0) = true by simp; omega]
        exact hbadj
      · exact hbadj
    · have hp : withinB D 2 1000 = true := withinB_iff.2 (by omega)
      obtain ⟨s, rfl⟩ := Int.eq_ofNat_of_zero_le (show 0 ≤ a0 by omega)
      obtain ⟨v, hv⟩ : ∃ v, count_Tail.f s D r h = some v := by
        unfold count_Tail.f; split
        · split <;> exact ⟨_, rfl⟩
        · exact ⟨_, rfl⟩
      rw [hv, hp, show decide ((s : Int) < 0) = false by simp]
      simp only [Option.bind_some, if_true]
      rw [overburdenlaw07_CountTails.j1, if_neg (by simp), overburdenref07_All.f, if_pos (by omega)]
      simp only [Option.bind_some]
      by_cases hw : (wholeV s D).2 = 0
      · have hw' := hw
        rw [wholeV, if_neg hbad] at hw'
        split at hw'
        · exact absurd hw' (by decide)
        · rename_i h12
          rw [allRefV, if_neg h12, if_pos hw']
          rw [if_pos rfl]
          by_cases hok : tailOk s D r h = true
          · have hok' := hok
            rw [tailOk, Bool.and_eq_true, withinB_iff, withinB_iff] at hok'
            rw [if_neg (by omega), if_neg (by omega), if_neg (by omega), wrap_id (x := (s : Int) + 1) (by omega) (by omega), show decide (h > (s : Int) + 1) = false by simp; omega]
            rw [count_Tail.f, if_pos hw, if_pos hok, Int.toNat_natCast, Option.some.injEq] at hv
            subst hv
            rw [overburdenlaw07_CountTails.j2, if_neg (by simp)]
            simp only [if_true]
            rw [ref_tail s D r h _ (by omega) (by omega) (by omega) (by omega) (by omega) (by omega)]
            simp only [Option.bind_some, bne_self_eq_false]
            exact j3_ok _ s D r h (by omega) hw hok
          · have hbadj : overburdenlaw07_CountTails.j2 (4096 + 28) s D r h 0 2 true = some true := by
              rw [overburdenlaw07_CountTails.j2, if_pos rfl, if_pos rfl, if_pos rfl, known_true _ (by omega)]; rfl
            rw [count_Tail.f, if_pos hw, if_neg hok, Option.some.injEq] at hv
            subst hv
            split
            · exact hbadj
            · split
              · exact hbadj
              · split
                · exact hbadj
                · rw [wrap_id (x := (s : Int) + 1) (by omega) (by omega), show decide (h > (s : Int) + 1) = true by
                    simp only [decide_eq_true_eq]
                    rw [tailOk, Bool.and_eq_true, withinB_iff, withinB_iff] at hok
                    omega]
                  exact hbadj
      · have h3 : (wholeV s D).2 = 3 ∧ (allRefV s D).2 = false := by
          rw [wholeV, if_neg hbad] at hw ⊢
          rw [allRefV]
          split
          · exact ⟨rfl, rfl⟩
          · rename_i h12
            rw [if_neg h12] at hw
            rw [if_neg hw]
            exact ⟨(wholeL_err _ _ _).resolve_left hw, rfl⟩
        rw [count_Tail.f, if_neg hw, h3.1, Option.some.injEq] at hv
        subst hv
        rw [h3.2]
        simp only [if_true, Bool.false_eq_true, if_false, known_true _ (show 10 ≤ 4096 + 28 by omega), Option.bind_some]
  rw [overburdenlaw07_CountTails.f]
  split
  · by_cases h12 : a0 ≤ 12
    · rw [decide_eq_true h12]; exact key
    · rw [decide_eq_false h12]; exact main (Or.inr (by omega))
  · exact main (Or.inl (by omega))
end Go.Proofs.Ytgofaifmbjallaa.Pure
