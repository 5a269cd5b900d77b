import Derived.Test.YtgofaifmbjallaaPax3
/-! The document's examples, reckoned. -/
namespace Go.Proofs.Ytgofaifmbjallaa.Pure
open Go.RowKit Go.Proofs.Ytgofaifmbjallaa.Pa Go.Proofs.YtgofaifmbjallaaW.PrintWords Go.Proofs.YtgofaifmbjallaaW.PrintLast
open Go.Proofs.Ytgofaifmbjallaa.Cn

set_option maxRecDepth 100000 in
theorem known_bet : count_Bet.f 1048576 0 0 4 1 = some (2097152, 699050, 0) := by decide +kernel
set_option maxRecDepth 100000 in
theorem known_capital : count_Capital.f [true, false, true, true] 4 1 = some ([1048576, 2097152, 932067, 1864134, 4473921], 0) := by decide +kernel
theorem known_tail : count_Tail.f 4 4 1 3 = some (13, 0) := by decide +kernel
theorem known_decide : count_Decide.f [true, false, true, true] 4 4 1 3 = some (3, 4, 0) := by decide +kernel
theorem known_stop : count_Stop.f [true, false, true, true] 4 4 1 = some (4, 0) := by decide +kernel
theorem known_power : count_Power.f 1 4 2 1 0 4 = some (3, 1, 0, 4, 0) := by decide +kernel
theorem known_kept : count_Kept.f [true, false, true, true] 4 4 = some ([⟨2, 3⟩], 0) := by kernel_rfl

theorem leO_up {α : Type} {f : Nat → Option α} (h : ∀ k, LeO (f k) (f (k + 1))) {j : Nat} {r : α} (hj : f j = some r) : ∀ k, j ≤ k → f k = some r := by
  intro k hk
  induction k with
  | zero => obtain rfl : j = 0 := by omega
            exact hj
  | succ k ih =>
    rcases Nat.lt_or_ge k j with h1 | h1
    · obtain rfl : j = k + 1 := by omega
      exact hj
    · exact h k _ (ih h1)
theorem known_true : ∀ k, 10 ≤ k → overburdenlaw07_known.f k = some true :=
  leO_up (fun k => overburdenlaw07_known.mono k) (j := 10) (by decide +kernel)
end Go.Proofs.Ytgofaifmbjallaa.Pure
