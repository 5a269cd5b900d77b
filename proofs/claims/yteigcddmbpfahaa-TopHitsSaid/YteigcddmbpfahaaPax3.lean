/- Printed by our own driver (wip/drive.py) over the kit's print. -/
import Derived.Test.YteigcddmbpfahaaPax0
namespace Go.Proofs.Yteigcddmbpfahaa.Pa
open Go.RowKit Go.Proofs.YteigcddmbpfahaaW.PrintWords Go.Proofs.YteigcddmbpfahaaW.PrintLast Go.Proofs.YteigcddmbpfahaaW.PrintMore
open Go.Proofs.Yteigcddmbpfahaa.Cn
attribute [local go_sem] max2_int min2_int max_two min_two max_three min_three max_four min_four   -- for this text's walks alone
set_option linter.unusedVariables false
set_option linter.unusedSimpArgs false
def overburdenref05_in.f (a0 : Int) (a1 : Int) (a2 : Int) : Option (Bool) := if a0 ≥ a1 then (some (decide (a0 ≤ a2))) else (some false)
def overburdenref05_Span.f (a0_0 : Int) (a0_1 : Int) (a1 : Int) (a2 : Int) : Option (Bool) := if a0_0 ≥ a1 then (if a0_0 ≤ a0_1 then (some (decide (a0_1 ≤ a2))) else (some false)) else (some false)
mutual
def overburdenref05_Sky.j0 : Nat → Bool → Int → List (List (S102)) → Int → Int → Int → Int → Option (Bool)
  | 0, _, _, _, _, _, _, _ => none
  | k + 1, x26, x103000, x103001, x103002, x103003, x103004, x103005 => if x26 = true then (some false) else (overburdenref05_Sky.l0 k 0 x103000 x103001 x103002 x103003 x103004 x103005)
def overburdenref05_Sky.l0 : Nat → Int → Int → List (List (S102)) → Int → Int → Int → Int → Option (Bool)
  | 0, _, _, _, _, _, _, _ => none
  | k + 1, x3, x103000, x103001, x103002, x103003, x103004, x103005 => if x3 < (x103001.length : Int) then (if 0 ≤ x3 then ((overburdenref05_bin.f x103000 (rd_L3 x103001 x3)).bind fun t108 => (if t108 = true then (overburdenref05_Sky.l0 k (wrap64 (x3 + 1)) x103000 x103001 x103002 x103003 x103004 x103005) else (some false))) else (none)) else (some true)
end
def overburdenref05_Sky.f (k : Nat) (a0_0 : Int) (l0_1 : List (List (S102))) (a0_2 : Int) (a0_3 : Int) (a0_4 : Int) (a0_5 : Int) : Option (Bool) := (overburdenref05_in.f a0_0 2 1000000).bind fun t103 => (if t103 = true then ((overburdenref05_in.f (l0_1.length : Int) 1 20).bind fun t104 => (if t104 = true then ((overburdenref05_Span.f a0_2 a0_3 (-100) 100).bind fun t105 => (if t105 = true then ((overburdenref05_Span.f a0_4 a0_5 (-100) 100).bind fun t106 => (overburdenref05_Sky.j0 k (!t106) a0_0 l0_1 a0_2 a0_3 a0_4 a0_5)) else (overburdenref05_Sky.j0 k true a0_0 l0_1 a0_2 a0_3 a0_4 a0_5))) else (overburdenref05_Sky.j0 k true a0_0 l0_1 a0_2 a0_3 a0_4 a0_5))) else (overburdenref05_Sky.j0 k true a0_0 l0_1 a0_2 a0_3 a0_4 a0_5))
theorem overburdenref05_Sky.mono_l : ∀ k, (∀ y0 y1 y2 y3 y4 y5 y6, LeO (overburdenref05_Sky.j0 k y0 y1 y2 y3 y4 y5 y6) (overburdenref05_Sky.j0 (k + 1) y0 y1 y2 y3 y4 y5 y6)) ∧ (∀ y0 y1 y2 y3 y4 y5 y6, LeO (overburdenref05_Sky.l0 k y0 y1 y2 y3 y4 y5 y6) (overburdenref05_Sky.l0 (k + 1) y0 y1 y2 y3 y4 y5 y6))
  | 0 => ⟨fun _ _ _ _ _ _ _ r h => by simp [overburdenref05_Sky.j0] at h, fun _ _ _ _ _ _ _ r h => by simp [overburdenref05_Sky.l0] at h⟩
  | k + 1 => by
    obtain ⟨ih0, ih1⟩ := overburdenref05_Sky.mono_l k
    refine ⟨?_, ?_⟩
    · intro y0 y1 y2 y3 y4 y5 y6
      unfold overburdenref05_Sky.j0
      repeat' first
      | (with_reducible exact ih0 _ _ _ _ _ _ _)
      | (with_reducible exact ih1 _ _ _ _ _ _ _)
      | (with_reducible exact LeO.refl _)
      | (with_reducible exact LeO.none _)
      | (with_reducible refine LeO.ite ?_ ?_)
      | (with_reducible refine LeO.bind ?_ (fun _ => ?_))
      | exact ih0 _ _ _ _ _ _ _
      | exact ih1 _ _ _ _ _ _ _
      | exact LeO.none _
      | refine LeO.ite ?_ ?_
      | refine LeO.bind ?_ (fun _ => ?_)
    · intro y0 y1 y2 y3 y4 y5 y6
      unfold overburdenref05_Sky.l0
      repeat' first
      | (with_reducible exact ih0 _ _ _ _ _ _ _)
      | (with_reducible exact ih1 _ _ _ _ _ _ _)
      | (with_reducible exact LeO.refl _)
      | (with_reducible exact LeO.none _)
      | (with_reducible refine LeO.ite ?_ ?_)
      | (with_reducible refine LeO.bind ?_ (fun _ => ?_))
      | exact ih0 _ _ _ _ _ _ _
      | exact ih1 _ _ _ _ _ _ _
      | exact LeO.none _
      | refine LeO.ite ?_ ?_
      | refine LeO.bind ?_ (fun _ => ?_)
theorem overburdenref05_Sky.mono : ∀ a0 a1 a2 a3 a4 a5 k, LeO (overburdenref05_Sky.f k a0 a1 a2 a3 a4 a5) (overburdenref05_Sky.f (k + 1) a0 a1 a2 a3 a4 a5) := by
  intro a0 a1 a2 a3 a4 a5 k
  obtain ⟨ih0, ih1⟩ := overburdenref05_Sky.mono_l k
  unfold overburdenref05_Sky.f
  repeat' first
      | (with_reducible exact ih0 _ _ _ _ _ _ _)
      | (with_reducible exact ih1 _ _ _ _ _ _ _)
      | (with_reducible exact LeO.refl _)
      | (with_reducible exact LeO.none _)
      | (with_reducible refine LeO.ite ?_ ?_)
      | (with_reducible refine LeO.bind ?_ (fun _ => ?_))
      | exact ih0 _ _ _ _ _ _ _
      | exact ih1 _ _ _ _ _ _ _
      | exact LeO.none _
      | refine LeO.ite ?_ ?_
      | refine LeO.bind ?_ (fun _ => ?_)
def align_within.f (a0 : Int) (a1 : Int) (a2 : Int) : Option (Bool) := if a0 ≥ a1 then (some (decide (a0 ≤ a2))) else (some false)
set_option maxHeartbeats 8000000 in
set_option maxRecDepth 100000 in
theorem align_within.calls (a0 : Int) (a1 : Int) (a2 : Int) (r : Bool) (w : World) (h : align_within.f a0 a1 a2 = some r) :
    Calls Try.prog 50 #[.int .i64 a0, .int .i64 a1, .int .i64 a2] w fun e w' => e = .returned (.bool r) ∧ Drawn0 w w' := by
  have H : (if a0 ≥ a1 then (some (decide (a0 ≤ a2))) else (some false)) = some r := h
  clear h
  by_cases c4 : a0 ≥ a1
  · rw [if_pos c4] at H
    have c4b0 : decide (a1 ≤ a0) = true := decide_eq_true c4
    clear c4
    obtain rfl := Option.some.inj H
    go_enter Try.func50, Try.ntmps50
    go_wp2
    go_ret
    exact ⟨by first | rfl | (simp; done) | (simp [*]; done), by repeat (first | exact Drawn0.refl _ | apply Drawn0.step)⟩
  · rw [if_neg c4] at H
    have c4b0 : decide (a1 ≤ a0) = false := decide_eq_false c4
    clear c4
    obtain rfl := Option.some.inj H
    go_enter Try.func50, Try.ntmps50
    go_wp2
    go_ret
    exact ⟨by first | rfl | (simp; done) | (simp [*]; done), by repeat (first | exact Drawn0.refl _ | apply Drawn0.step)⟩

end Go.Proofs.Yteigcddmbpfahaa.Pa
