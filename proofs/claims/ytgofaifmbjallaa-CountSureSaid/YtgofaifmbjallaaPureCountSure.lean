import Derived.Test.YtgofaifmbjallaaPax7
import Derived.Test.YtgofaifmbjallaaHs
import Derived.Test.YtgofaifmbjallaaKn
/-! The pure law CountSure. -/
namespace Go.Proofs.Ytgofaifmbjallaa.Pure
open Go.RowKit Go.Proofs.Ytgofaifmbjallaa.Pa Go.Proofs.YtgofaifmbjallaaW.PrintWords Go.Proofs.YtgofaifmbjallaaW.PrintLast Go.Proofs.YtgofaifmbjallaaW.PrintMore
open Go.Proofs.Ytgofaifmbjallaa.Cn

/-- a rate is excluded by slots -/
def outT (D A : Int) (k : Nat) (l : List Bool) : Bool := (run1 D A k l (Cn.start k)).out
theorem sure_sum_le {D : Int} {k : Nat} (hk : (k : Int) ≤ D) (t : List Bool → Bool) (n b : Nat) (hb : b ≤ 2 ^ n) : 0 ≤ sumN (fun b => wOf D k t (outL n b)) b ∧ sumN (fun b => wOf D k t (outL n b)) b ≤ pw D n := by
  have h0 : ∀ l, 0 ≤ wOf D k t l := by
    intro l; unfold wOf; split
    · exact wT_nn (by omega) hk l
    · omega
  refine ⟨sumN_nn b (fun b _ => h0 _), ?_⟩
  refine Int.le_trans (sumN_up (fun b => h0 _) (2 ^ n) hb) ?_
  rw [sumN_L n (wOf D k t), ← sumL_w D k n]
  apply sumL_le
  intro l _
  unfold wOf; split
  · exact Int.le_refl _
  · exact wT_nn (by omega) hk l

theorem sure_l1 (D : Nat) (A : Int) (k s : Nat) (hD : 2 ≤ D) (hD2 : D ≤ 40) (hA : 2 ≤ A) (hA2 : A ≤ 900000) (hk : k ≤ D) (hs : s ≤ 9) : ∀ m b K : Nat, b + m = 2 ^ s → m + 2000 ≤ K →
    overburdenlaw07_CountSure.l1 K s D A k (pw D s) (sumN (fun b => wOf D k (outT D A k) (outL s b)) b) b = some true := by
  have hN : 2 ^ s ≤ 512 := Nat.pow_le_pow_right (n := 2) (by omega) hs
  have hp := pw_small (D := D) (n := s) (by omega) (by omega) hs
  have hp0 := pw_pos (D := D) (by omega) s
  intro m
  induction m with
  | zero =>
    intro b K hb hK
    obtain ⟨K, rfl⟩ : ∃ j, K = j + 1 := ⟨K - 1, by omega⟩
    have hsure := sure (D := D) (A := A) (k := k) (by omega) (by omega) (by omega) s (Cn.start k) (run_start D k) (outT D A k) (fun l h => h) (worth_start A k)
    obtain rfl : b = 2 ^ s := by omega
    rw [overburdenlaw07_CountSure.l1, if_pos (by omega), shl_one s (by omega), if_neg (by omega), if_neg (by omega), tdiv_id (by omega)]
    have hq := quot_bound (a := pw D s) (b := A) (m := 262144000000000) (by omega) (by omega) hp
    have hle : sumN (fun b => wOf D k (outT D A k) (outL s b)) (2 ^ s) ≤ pw D s / A := by
      rw [sumN_L s (wOf D k (outT D A k))]
      apply Int.le_ediv_of_mul_le (by omega)
      rw [Int.mul_comm]; exact hsure
    rw [wrap_id (by omega) (by omega), if_pos hle, known_true K (by omega)]
    rfl
  | succ m ih =>
    intro b K hb hK
    obtain ⟨K, rfl⟩ : ∃ j, K = j + 1 := ⟨K - 1, by omega⟩
    have hn := ih (b + 1) K (by omega) (by omega)
    have hbd := sure_sum_le (D := D) (k := k) (by omega) (outT D A k) s b (by omega)
    have hbd2 := sure_sum_le (D := D) (k := k) (by omega) (outT D A k) s (b + 1) (by omega)
    have hout : outT D A k (outL s b) = (runS D A (outL s b) Cn.start k).out := by rw [runS_1]; rfl
    have hsl := spans_le (runS D A (outL s b) Cn.start) (D := D) (by omega)
    rw [overburdenlaw07_CountSure.l1, if_pos (by omega), shl_one s (by omega), if_pos (by omega), ref_outcome s b K (by omega) (by omega)]
    simp only [Option.bind_some]
    rw [kept_ok hD (by omega) (by rw [outL_len]; omega) hA hA2]
    simp only [Option.bind_some, if_true]
    rw [law_has _ _ K (by omega) (by omega), hasL_spans _ hk, ← hout, wrap_id (x := (b : Int) + 1) (by omega) (by omega)]
    simp only [Option.bind_some]
    rw [sumN] at hn hbd2
    unfold wOf at hn hbd2
    unfold wOf at hbd
    cases ho : outT D A k (outL s b)
    · rw [ho] at hn
      simp only [Bool.not_false, if_true]
      simp only [Bool.false_eq_true, if_false, Int.add_zero] at hn
      unfold wOf
      exact hn
    · rw [ho] at hn hbd2
      simp only [Bool.not_true, Bool.false_eq_true, if_false]
      simp only [if_true] at hn hbd2
      rw [ref_weight _ D k K (by omega) (by omega) (by omega) (by omega) (by rw [outL_len]; omega) (by rw [outL_len]; omega)]
      rw [wV_T (D := D) (k := k) (by omega) (by omega) (by omega) (by omega) _ 1 (by omega) (by rw [outL_len]; omega), Int.one_mul]
      simp only [Option.bind_some]
      unfold wOf
      rw [wrap_id (by omega) (by omega)]
      exact hn

theorem sure_l0 (D : Nat) (A : Int) (k s : Nat) (hD : 2 ≤ D) (hD2 : D ≤ 40) (hA : 2 ≤ A) (hA2 : A ≤ 900000) (hk : k ≤ D) (hs : s ≤ 9) : ∀ m i K : Nat, i + m = s → m + 2600 ≤ K →
    overburdenlaw07_CountSure.l0 K s D A k (pw D i) i = some true := by
  have hN : 2 ^ s ≤ 512 := Nat.pow_le_pow_right (n := 2) (by omega) hs
  intro m
  induction m with
  | zero =>
    intro i K hi hK
    obtain ⟨K, rfl⟩ : ∃ j, K = j + 1 := ⟨K - 1, by omega⟩
    obtain rfl : i = s := by omega
    rw [overburdenlaw07_CountSure.l0, if_neg (by omega)]
    exact sure_l1 D A k i hD hD2 hA hA2 hk hs (2 ^ i) 0 K (by omega) (by omega)
  | succ m ih =>
    intro i K hi hK
    obtain ⟨K, rfl⟩ : ∃ j, K = j + 1 := ⟨K - 1, by omega⟩
    have hp := pw_small (D := D) (n := i + 1) (by omega) (by omega) (by omega)
    have hp0 := pw_pos (D := D) (by omega) (i + 1)
    have e : pw D i * D = pw D (i + 1) := Int.mul_comm _ _
    rw [overburdenlaw07_CountSure.l0, if_pos (by omega), e, wrap_id (by omega) (by omega), wrap_id (by omega) (by omega)]
    exact ih (i + 1) K (by omega) (by omega)

theorem CountSure : overburdenlaw07_CountSure.Pure := by
  intro a0 a1 A a3 _ _ _ _
  refine ⟨3000, ?_⟩
  have key : overburdenlaw07_CountSure.j0 3000 a0 a1 A a3 true = some true := by
    rw [overburdenlaw07_CountSure.j0, if_pos rfl, known_true _ (by omega)]; rfl
  unfold overburdenlaw07_CountSure.f
  split
  · exact key
  · split
    · exact key
    · split
      · exact key
      · split
        · exact key
        · rw [law_level]
          simp only [Option.bind_some]
          split
          · rename_i hA
            rw [withinB_iff] at hA
            split
            · exact key
            · by_cases h : a3 > a1
              · rw [decide_eq_true h]; exact key
              · rw [decide_eq_false h]
                obtain ⟨s, rfl⟩ := Int.eq_ofNat_of_zero_le (show 0 ≤ a0 by omega)
                obtain ⟨D, rfl⟩ := Int.eq_ofNat_of_zero_le (show 0 ≤ a1 by omega)
                obtain ⟨k, rfl⟩ := Int.eq_ofNat_of_zero_le (show 0 ≤ a3 by omega)
                rw [overburdenlaw07_CountSure.j0, if_neg (by simp)]
                exact sure_l0 D A k s (by omega) (by omega) hA.1 hA.2 (by omega) (by omega) s 0 2999 (by omega) (by omega)
          · exact key
end Go.Proofs.Ytgofaifmbjallaa.Pure
