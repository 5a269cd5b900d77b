import Derived.Test.YteigcddmbpfahaaPax6
import Derived.Test.YteigcddmbpfahaaR1
import Derived.Test.YteigcddmbpfahaaFm
namespace Go.Proofs.Yteigcddmbpfahaa.Pure
set_option linter.unusedVariables false
open Go.RowKit Go.Proofs.Yteigcddmbpfahaa.Pa Go.Proofs.YteigcddmbpfahaaW.PrintWords Go.Proofs.YteigcddmbpfahaaW.PrintLast Go.Proofs.YteigcddmbpfahaaW.PrintMore
open Go.Proofs.Yteigcddmbpfahaa.Cn

theorem known20_true : overburdentop_known20.f 20 = some true := by decide +kernel
theorem known20_w (w : World) : Calls Try.prog 8 #[] w fun e w' => e = .returned (.bool true) ∧ Below w.heap.size w w' :=
  overburdentop_known20.calls 20 true w known20_true

theorem sky_loop (P b0 b1 a0 a1 : Int) (bins : List (List S102)) (hn : bins.length ≤ 1000) : ∀ m i k : Nat, i + m = bins.length → m + 1 ≤ k →
    overburdenref05_Sky.l0 k (i : Int) P bins b0 b1 a0 a1 = some (decide (∀ j : Nat, j < bins.length → i ≤ j → BinG P (rd_L3 bins j)))
  | 0, i, k + 1, hi, hk => by
    rw [overburdenref05_Sky.l0, if_neg (by omega), decide_eq_true (fun j h1 h2 => absurd h1 (by omega))]
  | m + 1, i, k + 1, hi, hk => by
    rw [overburdenref05_Sky.l0, if_pos (by omega), if_pos (by omega), overburdenref05_bin.f, Option.bind_some]
    rcases Classical.em (BinG P (rd_L3 bins i)) with h | h
    · rw [decide_eq_true h, if_pos rfl, show wrap64 ((i : Int) + 1) = ((i + 1 : Nat) : Int) by unfold wrap64; omega, sky_loop P b0 b1 a0 a1 bins hn m (i + 1) k (by omega) (by omega)]
      congr 1
      apply decide_eq_decide.2
      constructor
      · intro g j h1 h2
        rcases Nat.lt_or_ge i j with hh | hh
        · exact g j h1 (by omega)
        · obtain rfl : i = j := by omega
          exact h
      · intro g j h1 h2
        exact g j h1 (by omega)
    · rw [decide_eq_false h, if_neg (by simp), decide_eq_false (fun g => h (g i (by omega) (Nat.le_refl _)))]
  | _, _, 0, _, hk => by omega
theorem sky_pure (P b0 b1 a0 a1 : Int) (bins : List (List S102)) (hn : bins.length ≤ 90) : overburdenref05_Sky.f 100 P bins b0 b1 a0 a1 = some (decide (SkyG P bins b0 b1 a0 a1)) := by
  have hj : ∀ x, overburdenref05_Sky.j0 100 x P bins b0 b1 a0 a1 = if x = true then some false else some (decide (∀ j : Nat, j < bins.length → 0 ≤ j → BinG P (rd_L3 bins j))) := by
    intro x
    rw [overburdenref05_Sky.j0]
    split
    · rfl
    · exact sky_loop P b0 b1 a0 a1 bins (by omega) bins.length 0 99 (by omega) (by omega)
  unfold overburdenref05_Sky.f overburdenref05_in.f overburdenref05_Span.f
  simp only [hj]
  rcases Classical.em (SkyG P bins b0 b1 a0 a1) with h | h
  · obtain ⟨h1, h2, h3, h4, h5, h6, h7⟩ := h
    rw [decide_eq_true (show SkyG P bins b0 b1 a0 a1 from ⟨h1, h2, h3, h4, h5, h6, h7⟩), decide_eq_true (show ∀ j : Nat, j < bins.length → 0 ≤ j → BinG P (rd_L3 bins j) from fun j h _ => h7 j h)]
    rw [if_pos (show P ≥ 2 from h1), Option.bind_some, decide_eq_true h2, if_pos rfl, if_pos (show (bins.length : Int) ≥ 1 by omega), Option.bind_some, decide_eq_true (show (bins.length : Int) ≤ 20 by omega), if_pos rfl, if_pos (show b0 ≥ -100 from h5.1), if_pos h5.2.1, Option.bind_some, decide_eq_true h5.2.2, if_pos rfl, if_pos (show a0 ≥ -100 from h6.1), if_pos h6.2.1, Option.bind_some, decide_eq_true h6.2.2]
    rfl
  · rw [decide_eq_false h]
    by_cases h1 : P ≥ 2 <;> by_cases h2 : P ≤ 1000000 <;> by_cases h3 : (bins.length : Int) ≥ 1 <;> by_cases h4 : (bins.length : Int) ≤ 20 <;> by_cases h5 : b0 ≥ -100 <;> by_cases h6 : b0 ≤ b1 <;> by_cases h7 : b1 ≤ 100 <;> by_cases h8 : a0 ≥ -100 <;> by_cases h9 : a0 ≤ a1 <;> by_cases h10 : a1 ≤ 100 <;> simp only [h1, h2, h3, h4, h5, h6, h7, h8, h9, h10, if_true, if_false, decide_true, decide_false, Option.bind_some, Bool.not_true, Bool.not_false, Bool.false_eq_true]
    rw [decide_eq_false (fun g => h ⟨h1, h2, by omega, by omega, ⟨h5, h6, h7⟩, ⟨h8, h9, h10⟩, fun j hj => g j hj (Nat.zero_le _)⟩)]
end Go.Proofs.Yteigcddmbpfahaa.Pure
