import Derived.Test.YtgofaifmbjallaaHs
import Derived.Test.YtgofaifmbjallaaKn
import Derived.Test.YtgofaifmbjallaaSu
/-! The law CountWeighs, walked: it returns true. -/
namespace Go.Proofs.Ytgofaifmbjallaa.Pure
set_option linter.unusedVariables false
open Go.RowKit Go.Proofs.Ytgofaifmbjallaa.Pa Go.Proofs.YtgofaifmbjallaaW.PrintWords Go.Proofs.YtgofaifmbjallaaW.PrintLast Go.Proofs.YtgofaifmbjallaaW.PrintMore
open Go.Proofs.Ytgofaifmbjallaa.Cn

theorem known_w (w : World) : Calls Try.prog 17 #[] w fun e w' => e = .returned (.bool true) ∧ Below w.heap.size w w' :=
  overburdenlaw07_known.calls 10 true w (known_true 10 (by omega))

/-- a summand of a chance -/
def cF (D : Nat) (A k : Int) (lo hi : Nat) (v : Int) (l : List Bool) : Int := if (decideS (runS D A l Cn.start) D lo hi).1 = v then wT D k l else 0
theorem cF_nn {D : Nat} {A k : Int} {lo hi : Nat} {v : Int} (hk : 0 ≤ k) (hk2 : k ≤ D) (l : List Bool) : 0 ≤ cF D A k lo hi v l := by
  unfold cF; split
  · exact wT_nn hk hk2 l
  · omega
theorem pow_T {s D : Nat} {A k : Int} {lo hi : Nat} {v : Int} (hk : 0 ≤ k) (hk2 : k ≤ D) (hD : 1 ≤ D) (hD2 : D ≤ 1000) (hb : pw D s ≤ 1152921504606846976) :
    ∀ b, b ≤ 2 ^ s → powV s D A k lo hi v b = sumN (fun b => cF D A k lo hi v (outL s b)) b ∧ sumN (fun b => cF D A k lo hi v (outL s b)) b ≤ 1152921504606846976 := by
  have hall : ∀ b, b ≤ 2 ^ s → sumN (fun b => cF D A k lo hi v (outL s b)) b ≤ 1152921504606846976 := by
    intro b hbs
    refine Int.le_trans (sumN_up (fun b => cF_nn hk hk2 _) (2 ^ s) hbs) ?_
    rw [sumN_L s (cF D A k lo hi v)]
    refine Int.le_trans (sumL_le s _ (wT D k) (fun l _ => ?_)) ?_
    · unfold cF; split
      · exact Int.le_refl _
      · exact wT_nn hk hk2 l
    · rw [sumL_w]; exact hb
  intro b
  induction b with
  | zero => intro _; simp [powV, sumN]
  | succ b ih =>
    intro hbs
    have h1 := (ih (by omega)).1
    have h2 := hall (b + 1) hbs
    refine ⟨?_, h2⟩
    have hp := pw_pos (D := D) (by omega) s
    have hw : wV D k (outL s b) 1 = wT D k (outL s b) := by
      rw [wV_T (D := D) hk hk2 (by omega) (by omega) _ 1 (by omega) (by rw [outL_len]; omega)]; omega
    have h0 : 0 ≤ sumN (fun b => cF D A k lo hi v (outL s b)) b := sumN_nn b (fun b _ => cF_nn hk hk2 _)
    have h3 := wT_nn hk hk2 (outL s b)
    rw [powV, sumN, h1, hw, Int.toNat_natCast]
    rw [sumN] at h2
    unfold cF at h2 h0 ⊢
    by_cases hv : (decideS (runS D A (outL s b) Cn.start) D lo hi).1 = v
    · rw [if_pos hv] at h2 ⊢
      by_cases hpos : 0 < wT D k (outL s b)
      · rw [if_pos ⟨hpos, hv⟩, wrap_id (by omega) (by omega)]
      · rw [if_neg (fun h => hpos h.1)]; omega
    · rw [if_neg (fun h => hv h.2), if_neg hv]; omega
/-- the chances are together the weight of all outcomes -/
theorem pow_all {s D : Nat} {A k : Int} {lo hi : Nat} (hk : 0 ≤ k) (hk2 : k ≤ D) : sumN (fun b => cF D A k lo hi 2 (outL s b)) (2 ^ s) + sumN (fun b => cF D A k lo hi 3 (outL s b)) (2 ^ s) + sumN (fun b => cF D A k lo hi 1 (outL s b)) (2 ^ s) = pw D s := by
  rw [sumN_L s (cF D A k lo hi 2), sumN_L s (cF D A k lo hi 3), sumN_L s (cF D A k lo hi 1), ← sumL_add, ← sumL_add, ← sumL_w D k s]
  apply sumL_congr
  intro l _
  unfold cF
  rcases decideS_val (runS D A l Cn.start) D lo hi with h | h | h <;> rw [h] <;> simp
/-- a step of a chance, as the law reckons it -/
theorem pow_step {s D : Nat} {A k : Int} {lo hi : Nat} {v : Int} (hk : 0 ≤ k) (hk2 : k ≤ D) (hD : 1 ≤ D) (hD2 : D ≤ 1000) (hb : pw D s ≤ 1152921504606846976) {b : Nat} (hbs : b < 2 ^ s) :
    powV s D A k lo hi v (b + 1) = if (decideS (runS D A (outL s b) Cn.start) D lo hi).1 = v then wrap64 (powV s D A k lo hi v b + wV D k (outL s b) 1) else powV s D A k lo hi v b := by
  have h1 := pow_T (A := A) (lo := lo) (hi := hi) (v := v) hk hk2 hD hD2 hb b (by omega)
  have h0 : 0 ≤ sumN (fun b => cF D A k lo hi v (outL s b)) b := sumN_nn b (fun b _ => cF_nn hk hk2 _)
  have hp := pw_pos (D := D) (by omega) s
  have hw : wV D k (outL s b) 1 = wT D k (outL s b) := by
    rw [wV_T (D := D) hk hk2 (by omega) (by omega) _ 1 (by omega) (by rw [outL_len]; omega)]; omega
  have h3 := wT_nn hk hk2 (outL s b)
  rw [powV, Int.toNat_natCast, hw]
  by_cases hv : (decideS (runS D A (outL s b) Cn.start) D lo hi).1 = v
  · rw [if_pos hv]
    by_cases hpos : 0 < wT D k (outL s b)
    · rw [if_pos ⟨hpos, hv⟩]
    · rw [if_neg (fun h => hpos h.1), wrap_id (by omega) (by omega)]; omega
  · rw [if_neg (fun h => hv h.2), if_neg hv]
/-- at most ten slots of at most forty parts -/
theorem pw_ten {D : Int} {n : Nat} (h0 : 1 ≤ D) (h : D ≤ 40) (hn : n ≤ 10) : pw D n ≤ 10485760000000000 := by
  have h1 := pw_up h0 10 hn
  have h2 := pw_le h0 h 10
  have h3 : pw 40 10 = 10485760000000000 := by decide
  omega
end Go.Proofs.Ytgofaifmbjallaa.Pure
