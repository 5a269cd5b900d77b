import Derived.Test.YtgofaifmbjallaaPax4
import Derived.Test.YtgofaifmbjallaaC3
namespace Go.Proofs.Ytgofaifmbjallaa.Pure
open Go.RowKit Go.Proofs.Ytgofaifmbjallaa.Pa Go.Proofs.YtgofaifmbjallaaW.PrintWords Go.Proofs.YtgofaifmbjallaaW.PrintLast
open Go.Proofs.Ytgofaifmbjallaa.Cn

theorem mn_min (a b : Int) : mn a b = min a b := by unfold mn; omega

theorem ref_hit {c n h D r : Int} (hD2 : D ≤ 1000) (hD0 : 0 ≤ D) (hn : 0 ≤ n) (hn2 : n ≤ 4000) (hh : 0 ≤ h) (hh2 : h ≤ n) (hc : 0 ≤ c) (hc2 : c ≤ 1000000000000) (hr : 0 < r) (hr2 : r ≤ D) :
    (wrap64 ((wrap64 (n + 2)) * r) = (n + 2) * r ∧ 0 < (n + 2) * r) ∧
    mn 1000000000000 (wrap64 (Int.tdiv (wrap64 ((wrap64 (c * (wrap64 (h + 1)))) * D)) (wrap64 ((wrap64 (n + 2)) * r)))) = min 1000000000000 (c * (h + 1) * D / ((n + 2) * r)) := by
  obtain ⟨e1, e2, e3, e4⟩ := bet_bound hc hc2 hh hh2 hn2 hD0 hD2
  obtain ⟨d1, d2⟩ := den_bound hn hn2 (show 0 ≤ r by omega) hr2 hD2
  obtain ⟨q1, q2⟩ := quot_bound e3 d1 e4
  have d3 : 0 < (n + 2) * r := Int.mul_pos (by omega) hr
  rw [mn_min, wrap_id (x := n + 2) (by omega) (by omega), wrap_id (x := h + 1) (by omega) (by omega), wrap_id (x := c * (h + 1)) (by omega) (by omega), wrap_id (x := (n + 2) * r) (by omega) (by omega), wrap_id (x := c * (h + 1) * D) (by omega) (by omega), tdiv_id e3, wrap_id (by omega) (by omega)]
  exact ⟨⟨rfl, d3⟩, rfl⟩

theorem ref_bet {c n h D r : Int} (hD2 : D ≤ 1000) (hD0 : 2 ≤ D) (hn : 0 ≤ n) (hn2 : n ≤ 4000) (hh : 0 ≤ h) (hh2 : h ≤ n) (hc : 0 ≤ c) (hc2 : c ≤ 1000000000000) (hr : 0 ≤ r) (hr2 : r ≤ D) (k : Nat) :
    overburdenref07_Bet.f (k + 2) c n h D r = some (hitV D n h r c, missV D n h r c) := by
  have hmiss : r < D → (wrap64 ((wrap64 (n + 2)) * (wrap64 (D - r))) = (n + 2) * (D - r) ∧ 0 < (n + 2) * (D - r)) ∧
      mn 1000000000000 (wrap64 (Int.tdiv (wrap64 ((wrap64 (c * (wrap64 ((wrap64 (n - h)) + 1)))) * D)) (wrap64 ((wrap64 (n + 2)) * (wrap64 (D - r)))))) = min 1000000000000 (c * (n - h + 1) * D / ((n + 2) * (D - r))) := by
    intro hlt
    have := ref_hit (c := c) (n := n) (h := n - h) (D := D) (r := D - r) hD2 (by omega) hn hn2 (by omega) (by omega) hc hc2 (by omega) (by omega)
    rw [wrap_id (x := D - r) (by omega) (by omega), wrap_id (x := n - h) (by omega) (by omega)]
    exact this
  rcases Int.lt_or_eq_of_le hr with h1 | h1
  · obtain ⟨⟨a1, a2⟩, a3⟩ := ref_hit hD2 (show 0 ≤ D by omega) hn hn2 hh hh2 hc hc2 h1 hr2
    rcases Int.lt_or_eq_of_le hr2 with h2 | h2
    · obtain ⟨⟨b1, b2⟩, b3⟩ := hmiss h2
      rw [overburdenref07_Bet.f, if_pos (by omega), if_neg (by omega), a3, overburdenref07_Bet.j0, if_pos h2, if_neg (by omega), b3, overburdenref07_Bet.j1, if_neg (by omega), if_neg (by omega)]
      rw [hitV, if_neg (by omega), if_neg (by omega), missV, if_neg (by omega), if_neg (by omega)]
    · rw [overburdenref07_Bet.f, if_pos (by omega), if_neg (by omega), a3, overburdenref07_Bet.j0, if_neg (by omega), overburdenref07_Bet.j1, if_neg (by omega), if_pos h2]
      rw [hitV, if_neg (by omega), if_pos h2, missV, if_neg (by omega), if_pos h2]
  · obtain ⟨⟨b1, b2⟩, b3⟩ := hmiss (by omega)
    rw [overburdenref07_Bet.f, if_neg (by omega), overburdenref07_Bet.j0, if_pos (by omega), if_neg (by omega), b3, overburdenref07_Bet.j1, if_pos h1.symm, if_neg (by omega)]
    rw [hitV, if_pos h1.symm, missV, if_pos h1.symm]
end Go.Proofs.Ytgofaifmbjallaa.Pure
