import Derived.Test.YtgofaifmbjallaaC1
/-! A list of bools in memory, as the contracts read it. -/
namespace Go.Proofs.Ytgofaifmbjallaa.Cn
open Go.RowKit Go.Proofs.YtgofaifmbjallaaW.PrintWords Go.Proofs.YtgofaifmbjallaaW.PrintLast

theorem C_nil_bools (w : World) (A : Option Addr) : Kd.C Kd.bool w A 0 [] := ⟨rfl, by omega, fun h => absurd h (by omega)⟩
theorem C_bools {w : World} {x : Addr} {len : Nat} {B : Nat → Bool} (hl : len ≤ maxLen) (h : ∀ i, i < len → w.cell? (x.add i) = some (.bool (B i))) :
    Kd.C Kd.bool w (some x) len ((List.range len).map B) := by
  refine ⟨by simp, by simp [maxLen] at hl; omega, fun _ => ⟨x, rfl, fun j p hj => ⟨[.bool p], rfl, rfl, fun i u hu => ?_⟩⟩⟩
  obtain ⟨hlt, hp⟩ := List.getElem?_eq_some_iff.1 hj
  simp at hlt hp
  cases i with
  | zero =>
    simp at hu
    subst hu
    have := h j hlt
    rw [hp] at this
    simpa [Kd.bool, Kd.scalar] using this
  | succ i => simp at hu
end Go.Proofs.Ytgofaifmbjallaa.Cn
