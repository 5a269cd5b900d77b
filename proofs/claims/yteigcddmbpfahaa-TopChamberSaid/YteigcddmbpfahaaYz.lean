import Derived.Test.YteigcddmbpfahaaYu
import Derived.Test.YteigcddmbpfahaaYv
import Derived.Test.YteigcddmbpfahaaYw
import Derived.Test.YteigcddmbpfahaaYx
import Derived.Test.YteigcddmbpfahaaYy
namespace Go.Proofs.Yteigcddmbpfahaa.Pure
set_option linter.unusedVariables false
open Go.RowKit Go.Proofs.Yteigcddmbpfahaa.Pa Go.Proofs.YteigcddmbpfahaaW.PrintWords Go.Proofs.YteigcddmbpfahaaW.PrintLast Go.Proofs.YteigcddmbpfahaaW.PrintMore
open Go.Proofs.Yteigcddmbpfahaa.Cn
theorem chamber_walk (P : Int) (A : Option Addr) (c : Nat) (bins : List (List S102)) (b0 b1 a0 a1 : Int) (At : Option Addr) (ct : Nat) (lt : List S66) (x2 x3 x4 x5 x6 x7 : Int) (w : World)
    (hr : Kd.C (Kd.slice 102 k102) w A bins.length bins) (hc : bins.length ≤ c) (hrt : Kd.C k66 w At lt.length lt) (hct : lt.length ≤ ct) :
    Calls Try.prog 3 #[.agg #[.int .i64 P, .slice A bins.length c, .int .i64 b0, .int .i64 b1, .int .i64 a0, .int .i64 a1], .slice At lt.length ct, .int .i64 x2, .int .i64 x3, .int .i64 x4, .int .i64 x5, .int .i64 x6, .int .i64 x7] w fun e w' => e = .returned (.bool true) ∧ Below w.heap.size w w' := by
  rcases Classical.em (50 < (lt.length : Int) ∨ 25 < (bins.length : Int) ∨ 40 < P ∨ ¬ SkyG P bins b0 b1 a0 a1 ∨ ¬ RngG lt) with h | h
  · exact chamber_a P A c bins b0 b1 a0 a1 At ct lt x2 x3 x4 x5 x6 x7 w hr hc hrt hct h
  obtain ⟨c0, h⟩ := not_or.1 h
  obtain ⟨c1, h⟩ := not_or.1 h
  obtain ⟨c2, h⟩ := not_or.1 h
  obtain ⟨hs, hg⟩ := not_or.1 h
  have hs := Classical.not_not.1 hs
  have hg := Classical.not_not.1 hg
  rcases Classical.em ((x2 < 0) ∨ ((bins.length : Int) ≤ x2) ∨ (x3 < 0) ∨ (1000000 < x3)) with h | h
  · exact chamber_b P A c bins b0 b1 a0 a1 At ct lt x2 x3 x4 x5 x6 x7 w hr hc hrt hct c0 c1 c2 hs hg h
  obtain ⟨c3, h⟩ := not_or.1 h
  obtain ⟨c4, h⟩ := not_or.1 h
  obtain ⟨c5, c6⟩ := not_or.1 h
  rcases Classical.em ((x4 < 0) ∨ (x3 < x4) ∨ (x5 < 2) ∨ (900000 < x5)) with h | h
  · exact chamber_c P A c bins b0 b1 a0 a1 At ct lt x2 x3 x4 x5 x6 x7 w hr hc hrt hct c0 c1 c2 hs hg c3 c4 c5 c6 h
  obtain ⟨c7, h⟩ := not_or.1 h
  obtain ⟨c8, h⟩ := not_or.1 h
  obtain ⟨c9, c10⟩ := not_or.1 h
  rcases Classical.em ((x6 < 0) ∨ (7 < x6) ∨ (x7 < 0) ∨ (100 < x7)) with h | h
  · exact chamber_d P A c bins b0 b1 a0 a1 At ct lt x2 x3 x4 x5 x6 x7 w hr hc hrt hct c0 c1 c2 hs hg c3 c4 c5 c6 c7 c8 c9 c10 h
  obtain ⟨c11, h⟩ := not_or.1 h
  obtain ⟨c12, h⟩ := not_or.1 h
  obtain ⟨c13, c14⟩ := not_or.1 h
  rcases Classical.em (expL bins lt x2 (x3 - x4) ≤ expH bins lt x2 x3) with h | h
  · exact chamber_e P A c bins b0 b1 a0 a1 At ct lt x2 x3 x4 x5 x6 x7 w hr hc hrt hct c0 c1 c2 hs hg c3 c4 c5 c6 c7 c8 c9 c10 c11 c12 c13 c14 h
  · exact chamber_f P A c bins b0 b1 a0 a1 At ct lt x2 x3 x4 x5 x6 x7 w hr hc hrt hct c0 c1 c2 hs hg c3 c4 c5 c6 c7 c8 c9 c10 c11 c12 c13 c14 h
end Go.Proofs.Yteigcddmbpfahaa.Pure
