import Derived.Test.YtgofaifmbjallaaPax11
import Derived.Test.YtgofaifmbjallaaHs
/-! What the laws ask first. -/
namespace Go.Proofs.Ytgofaifmbjallaa.Pure
open Go.RowKit Go.Proofs.Ytgofaifmbjallaa.Pa Go.Proofs.YtgofaifmbjallaaW.PrintWords Go.Proofs.YtgofaifmbjallaaW.PrintLast Go.Proofs.YtgofaifmbjallaaW.PrintMore
open Go.Proofs.Ytgofaifmbjallaa.Cn

theorem ref_parts (D : Int) : overburdenref07_Parts.f D = some (withinB D 2 1000) := by
  unfold overburdenref07_Parts.f overburdenref07_in.f withinB
  by_cases h : 2 ≤ D
  · rw [if_pos h]; simp [h]
  · rw [if_neg h]; simp [h]
theorem law_wrong (l : List Bool) (D : Int) : overburdenlaw07_wrong.f l D = some (if ¬ (2 ≤ D ∧ D ≤ 1000) then 2 else if 4000 < l.length then 3 else 0) := by
  rw [overburdenlaw07_wrong.f, ref_parts]
  simp only [Option.bind_some]
  by_cases h : 2 ≤ D ∧ D ≤ 1000
  · rw [if_pos (withinB_iff.2 h), show (if ¬ (2 ≤ D ∧ D ≤ 1000) then (2 : Int) else if 4000 < l.length then 3 else 0) = (if 4000 < l.length then 3 else 0) from if_neg (fun hn => hn h)]
    by_cases h2 : 4000 < l.length
    · rw [if_pos (by omega), if_pos h2]
    · rw [if_neg (by omega), if_neg h2]
  · rw [if_neg (fun hw => h (withinB_iff.1 hw)), if_pos h]
theorem law_few (l : List Bool) (D m : Int) : overburdenlaw07_few.f l D m = some (decide (((l.length : Int) ≤ m ∨ (4000 < (l.length : Int) ∧ (l.length : Int) ≤ 4010)) ∧ (D ≤ 40 ∨ 1000 < D))) := by
  unfold overburdenlaw07_few.f
  have ht : ∀ p q : Prop, ∀ (_ : Decidable p) (_ : Decidable q), (p ↔ q) → some (decide p) = some (decide q) := fun p q _ _ h => congrArg some (decide_eq_decide.2 h)
  have t1 : ∀ q : Prop, ∀ (_ : Decidable q), q → some true = some (decide q) := fun q _ h => by rw [decide_eq_true h]
  have t0 : ∀ q : Prop, ∀ (_ : Decidable q), ¬ q → some false = some (decide q) := fun q _ h => by rw [decide_eq_false h]
  split
  · split
    · exact t1 _ _ (by omega)
    · exact ht _ _ _ _ (by constructor <;> intro <;> omega)
  · split
    · split
      · split
        · exact t1 _ _ (by omega)
        · exact ht _ _ _ _ (by constructor <;> intro <;> omega)
      · exact t0 _ _ (by omega)
    · exact t0 _ _ (by omega)
theorem listedV_bad {n : Nat} {D : Int} {fine : Bool} (h : (if ¬ (2 ≤ D ∧ D ≤ 1000) then (2 : Int) else if 4000 < n then 3 else 0) ≠ 0) :
    listedV n D fine = (if ¬ (2 ≤ D ∧ D ≤ 1000) then (2 : Int) else if 4000 < n then 3 else 0) := by
  unfold listedV
  by_cases h1 : 2 ≤ D ∧ D ≤ 1000
  · rw [if_neg (fun hn => hn h1)] at h ⊢
    by_cases h2 : 4000 < n
    · rw [if_pos h2, if_neg (fun hn => hn h1), if_pos h2]
    · rw [if_neg h2] at h; exact absurd rfl h
  · rw [if_pos h1, if_pos h1]

end Go.Proofs.Ytgofaifmbjallaa.Pure
