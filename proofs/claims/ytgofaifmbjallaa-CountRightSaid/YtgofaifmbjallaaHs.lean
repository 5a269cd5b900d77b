import Derived.Test.YtgofaifmbjallaaMg
/-! What the spans of rates tell. -/
namespace Go.Proofs.Ytgofaifmbjallaa.Pure
open Go.RowKit Go.Proofs.Ytgofaifmbjallaa.Pa Go.Proofs.YtgofaifmbjallaaW.PrintWords Go.Proofs.YtgofaifmbjallaaW.PrintLast Go.Proofs.YtgofaifmbjallaaW.PrintMore
open Go.Proofs.Ytgofaifmbjallaa.Cn

def hasL (x : Int) : List S65 → Bool
  | [] => false
  | s :: l => (decide (s.f0 ≤ x) && decide (x ≤ s.f1)) || hasL x l
theorem ext_all (f : Nat → Bool) (n : Nat) : ∀ d h j, h < j → j ≤ ext f n d h → f j = true
  | 0, h, j, h1, h2 => by simp only [ext] at h2; omega
  | d + 1, h, j, h1, h2 => by
    simp only [ext] at h2
    split at h2
    · rename_i c
      rcases Nat.lt_or_ge (h + 1) j with h3 | h3
      · exact ext_all f n d (h + 1) j h3 h2
      · obtain rfl : j = h + 1 := by omega
        exact c.2
    · omega
theorem hasL_runs (f : Nat → Bool) (n k : Nat) (hk : k < n) : ∀ d low, n ≤ low + d → hasL k (runsL f n d low) = (decide (low ≤ k) && f k)
  | 0, low, h => by
    rw [runsL, hasL, decide_eq_false (by omega)]; rfl
  | d + 1, low, h => by
    rw [runsL]
    by_cases h1 : low < n
    · rw [if_pos h1]
      by_cases h2 : f low = true
      · rw [if_pos h2]
        have hg := ext_ge f n n low
        have ih := hasL_runs f n k hk d (ext f n n low + 1) (by omega)
        have ha := ext_all f n n low
        generalize ext f n n low = e at *
        simp only [hasL, ih]
        by_cases h3 : low ≤ k
        · have c1 : ((low : Int) ≤ (k : Int)) := by omega
          by_cases h4 : k ≤ e
          · have hf : f k = true := by
              rcases Nat.lt_or_eq_of_le h3 with h5 | h5
              · exact ha k h5 h4
              · rw [← h5]; exact h2
            have c2 : ((k : Int) ≤ (e : Int)) := by omega
            simp [c1, c2, hf, h3]
          · have c2 : ¬ ((k : Int) ≤ (e : Int)) := by omega
            have c3 : e + 1 ≤ k := by omega
            simp [c2, c3, h3]
        · have c1 : ¬ ((low : Int) ≤ (k : Int)) := by omega
          have c3 : ¬ (e + 1 ≤ k) := by omega
          simp [c1, c3, h3]
      · rw [if_neg h2]
        have ih := hasL_runs f n k hk d (low + 1) (by omega)
        rw [ih]
        by_cases h3 : low + 1 ≤ k
        · simp [h3, show low ≤ k by omega]
        · by_cases h4 : low = k
          · subst h4
            simp [h3]; simpa using h2
          · simp [h3, show ¬ low ≤ k by omega]
    · rw [if_neg h1, hasL, decide_eq_false (by omega)]; rfl
theorem hasL_spans (S : Nat → KS) {D k : Nat} (hk : k ≤ D) : hasL k (spansS S D) = !(S k).out := by
  unfold spansS
  rw [hasL_runs _ _ k (by omega) _ _ (by omega)]
  simp [keptF]

theorem has_step (l : List S65) (x : Int) (hl : l.length ≤ 4000) : ∀ m i k : Nat, i + m = l.length → m + 1 ≤ k →
    overburdenlaw07_has.l0 k l x i = some (hasL x (l.drop i)) := by
  intro m
  induction m with
  | zero =>
    intro i k hi hk
    obtain ⟨k, rfl⟩ : ∃ j, k = j + 1 := ⟨k - 1, by omega⟩
    rw [overburdenlaw07_has.l0, if_neg (by omega), List.drop_of_length_le (by omega), hasL]
  | succ m ih =>
    intro i k hi hk
    obtain ⟨k, rfl⟩ : ∃ j, k = j + 1 := ⟨k - 1, by omega⟩
    have hlt : i < l.length := by omega
    have hr : rd_T65 l (i : Int) = l[i] := by simp [rd_T65, hlt]
    rw [overburdenlaw07_has.l0, if_pos (by omega), if_pos (by omega), hr, List.drop_eq_getElem_cons hlt, hasL, wrap_id (x := (i : Int) + 1) (by omega) (by omega)]
    have ih' := ih (i + 1) k (by omega) (by omega)
    by_cases h1 : l[i].f0 ≤ x
    · rw [if_pos h1]
      by_cases h2 : x ≤ l[i].f1
      · rw [if_pos h2]; simp [h1, h2]
      · rw [if_neg h2]; refine ih'.trans ?_; simp [h2]
    · rw [if_neg h1]; refine ih'.trans ?_; simp [h1]
theorem law_has (l : List S65) (x : Int) (k : Nat) (hl : l.length ≤ 4000) (hk : l.length + 1 ≤ k) : overburdenlaw07_has.f k l x = some (hasL x l) := by
  rw [overburdenlaw07_has.f]
  have := has_step l x hl l.length 0 k (by omega) hk
  simpa using this
theorem law_level (n m : Int) : overburdenlaw07_level.f n m = some (withinB n 2 m) := by
  unfold overburdenlaw07_level.f withinB
  by_cases h : 2 ≤ n
  · rw [if_pos h]; simp [h]
  · rw [if_neg h]; simp [h]
theorem kept_ok {l : List Bool} {D : Nat} {A : Int} (h1 : 2 ≤ D) (h2 : D ≤ 1000) (h3 : l.length ≤ 4000) (h4 : 2 ≤ A) (h5 : A ≤ 900000) :
    count_Kept.f l D A = some (spansS (runS D A l Cn.start) D, 0) := by
  have hw : withinB A 2 900000 = true := withinB_iff.2 ⟨h4, h5⟩
  have : listedV l.length D (withinB A 2 900000) = 0 := by
    unfold listedV
    rw [if_neg (by omega), if_neg (by omega), hw, if_neg (by simp)]
  rw [count_Kept.f, if_pos this]; rfl
theorem wf_bd {x : Int} (h : (Lit.int .i64 x).wf = true) : -9223372036854775808 ≤ x ∧ x ≤ 9223372036854775807 := by
  simp [Lit.wf, IntKind.min, IntKind.max, IntKind.signed, IntKind.bits] at h
  omega
theorem shl_one (s : Nat) (hs : s ≤ 60) : shl .i64 1 (s : Int) = ((2 ^ s : Nat) : Int) := by
  have : (2 : Nat) ^ s ≤ 2 ^ 60 := Nat.pow_le_pow_right (by omega) hs
  unfold shl
  rw [Int.toNat_natCast, Nat.min_eq_left (by simp [IntKind.bits]; omega), IntKind.wrap_i64, Int.one_mul]
  have e : ((2 : Int) ^ s) = ((2 ^ s : Nat) : Int) := by simp
  rw [e]
  generalize (2 : Nat) ^ s = m at *
  omega
theorem pw_le {D E : Int} (h0 : 1 ≤ D) (h : D ≤ E) : ∀ n, pw D n ≤ pw E n
  | 0 => Int.le_refl _
  | n + 1 => by
    have := pw_pos h0 n
    exact mul_le_nn h (pw_le h0 h n) (by omega) (by omega)
theorem pw_up {D : Int} (h0 : 1 ≤ D) {m : Nat} : ∀ n, m ≤ n → pw D m ≤ pw D n := by
  intro n hn
  induction n with
  | zero => obtain rfl : m = 0 := by omega
            exact Int.le_refl _
  | succ n ih =>
    rcases Nat.lt_or_ge m (n + 1) with h1 | h1
    · have := ih (by omega)
      have hp := pw_pos h0 n
      have := mul_le_nn h0 (Int.le_refl (pw D n)) (by omega) (by omega)
      rw [pw]; omega
    · obtain rfl : m = n + 1 := by omega
      exact Int.le_refl _
/-- at most nine slots of at most forty parts -/
theorem pw_small {D : Int} {n : Nat} (h0 : 1 ≤ D) (h : D ≤ 40) (hn : n ≤ 9) : pw D n ≤ 262144000000000 := by
  have h1 := pw_up h0 9 hn
  have h2 := pw_le h0 h 9
  have h3 : pw 40 9 = 262144000000000 := by decide
  omega
end Go.Proofs.Ytgofaifmbjallaa.Pure
