import Derived.Test.YteigcddmbpfahaaGc
namespace Go.Proofs.Yteigcddmbpfahaa.Cn
set_option linter.unusedVariables false
set_option linter.unusedSimpArgs false
open Go.RowKit Go.Proofs.YteigcddmbpfahaaW.PrintWords Go.Proofs.YteigcddmbpfahaaW.PrintLast Go.Proofs.YteigcddmbpfahaaW.PrintMore Go.Proofs.Yteigcddmbpfahaa.Pc

def cwholeL (D : Int) : Nat → Int → Int × Bool
  | 0, n => (n, true)
  | i + 1, n => if 1152921504606846976 / D < n then (0, false) else cwholeL D i (n * D)
def cwholeV (D : Int) (s : Nat) : Int × Bool := if 12 < s then (0, false) else cwholeL D (3 * s) 1

set_option maxHeartbeats 1000000 in
theorem cwhole_calls (D : Int) (s : Nat) (w : World) (g1 : 2 ≤ D) (g2 : D ≤ 1000) :
    Calls Try.prog 61 #[.int .i64 D, .int .i64 s] w fun e w' => e = .returned (.tuple #[.int .i64 (cwholeV D s).1, .bool (cwholeV D s).2]) ∧ w = w' := by
  by_cases h3 : 12 < s
  · rw [show cwholeV D s = (0, false) by simp [cwholeV, h3]]
    have h3' : (12 : Int) < (s : Int) := by omega
    go_enter Try.func61, Try.ntmps61
    go_wp2
    go_ret2
    exact ⟨rfl, rfl⟩
  · have hv : cwholeV D s = cwholeL D (3 * s) 1 := by simp [cwholeV, h3]
    have H0 := Lib.hid (show cwholeL D (3 * s - 0) 1 = cwholeV D s from hv.symm)
    generalize cwholeV D s = R at *
    have hb : ¬ (12 : Int) < (s : Int) := by omega
    have hs3 : (0 : Int) ≤ 3 * (s : Int) ∧ 3 * (s : Int) ≤ 36 := by omega
    clear hv
    go_enter Try.func61, Try.ntmps61
    go_wp2_with fail
    go_loop [6, 11] (fun v6 i => ∃ (j : Nat) (n : Int), v6 = .int .i64 n ∧ i = .int .i64 j ∧ j ≤ 3 * s ∧ 1 ≤ n ∧ n ≤ 1152921504606846976 ∧ Hid (cwholeL D (3 * s - j) n = R)) (fun _ i => 3 * s - (intOf i).toNat)
    case atStart => exact ⟨0, 1, rfl, rfl, by omega, by omega, by omega, H0⟩
    case round =>
      obtain ⟨j, n, rfl, rfl, hj, n1, n2, HR⟩ := hrel
      by_cases hlt : j < 3 * s
      · have hR := HR.out
        rw [show 3 * s - j = (3 * s - (j + 1)) + 1 by omega, cwholeL] at hR
        have hlt' : (j : Int) < 3 * (s : Int) := by omega
        rcases Classical.em (1152921504606846976 / D < n) with hq | hq
        · rw [if_pos hq] at hR
          have hqb : decide (1152921504606846976 / D < n) = true := decide_eq_true hq
          have HR2 := Lib.hid hR
          clear HR hR hq hlt
          go_wp2
          go_ret2
          exact ⟨by rw [← HR2.out]; rfl, rfl⟩
        · rw [if_neg hq] at hR
          have HR2 := Lib.hid hR
          have hqb : decide (1152921504606846976 / D < n) = false := decide_eq_false hq
          have m1 : 1 ≤ n * D := by have := Int.mul_le_mul n1 (show 1 ≤ D by omega) (by omega) (by omega); simpa using this
          have m2 : n * D ≤ 1152921504606846976 := by
            have := Int.mul_le_of_le_ediv (show 0 < D by omega) (show n ≤ 1152921504606846976 / D by omega)
            exact this
          clear HR hR hq
          go_wp2
          go_round
          case rel => exact ⟨j + 1, _, rfl, by go_num, by omega, m1, m2, HR2⟩
          case measure => simp [intOf]; omega
      · have hR := HR.out
        rw [show 3 * s - j = 0 by omega, cwholeL] at hR
        have hlt' : ¬ (j : Int) < 3 * (s : Int) := by omega
        have HR2 := Lib.hid hR
        clear HR hR
        go_wp2
        go_ret2
        exact ⟨by rw [← HR2.out]; rfl, rfl⟩

structure CampG (P lv bu : Int) (ss : List S58) (s : Nat) : Prop where
  p2 : 2 ≤ P
  p3 : P ≤ 1000
  l2 : 2 ≤ lv
  l3 : lv ≤ 300000
  b0 : 0 ≤ bu
  b1 : bu ≤ 8000000
  n1 : 1 ≤ ss.length
  n2 : ss.length ≤ 8
  site : ∀ i : Nat, i < ss.length → 0 ≤ (rd_T58 ss i).f0 ∧ (rd_T58 ss i).f0 ≤ 1000000 ∧ 1 ≤ (rd_T58 ss i).f2 ∧ (rd_T58 ss i).f2 ≤ P ∧ 0 ≤ (rd_T58 ss i).f1 ∧ (rd_T58 ss i).f1 < (rd_T58 ss i).f2 ∧ 0 ≤ (rd_T58 ss i).f3 ∧ (rd_T58 ss i).f3 ≤ P
  wh : (cwholeV P s).2 = true

theorem cwithin_ok {a b c : Int} (h1 : b ≤ a) (h2 : a ≤ c) : camp_within.f a b c = some true := by
  unfold camp_within.f
  rw [if_pos (by omega), decide_eq_true h2]
theorem wrap_pred {x : Int} (h1 : 0 ≤ x) (h2 : x ≤ 1000000) : wrap64 (x - 1) = x - 1 := by unfold wrap64; omega
theorem wrap_succ {x : Nat} (h2 : x ≤ 1000000) : wrap64 ((x : Int) + 1) = ((x + 1 : Nat) : Int) := by unfold wrap64; omega
theorem planned_go {P lv bu : Int} {ss : List S58} {s : Nat} (h : CampG P lv bu ss s) : ∀ (d : Nat) (i k : Nat), i + d = ss.length → d < k → camp_planned.l0 k ss ss.length i P lv bu ss = some true := by
  intro d
  induction d with
  | zero =>
    intro i k hi hk
    obtain ⟨k, rfl⟩ : ∃ m, k = m + 1 := ⟨k - 1, by omega⟩
    rw [camp_planned.l0, if_neg (by omega), cwithin_ok h.p2 h.p3]
    simp only [Option.bind_some, if_true]
    rw [cwithin_ok h.l2 h.l3]
    simp only [Option.bind_some, if_true]
    rw [cwithin_ok h.b0 h.b1]
    simp only [Option.bind_some, if_true]
    rw [cwithin_ok (a := (ss.length : Int)) (b := 1) (c := 8) (by have := h.n1; omega) (by have := h.n2; omega)]
    simp only [Option.bind_some]
  | succ d ih =>
    intro i k hi hk
    obtain ⟨k, rfl⟩ : ∃ m, k = m + 1 := ⟨k - 1, by omega⟩
    have hlt : i < ss.length := by omega
    have hle : i ≤ 1000000 := by have := h.n2; omega
    obtain ⟨s1, s2, s3, s4, s5, s6, s7, s8⟩ := h.site i hlt
    have q3 := h.p3
    have hltI : (i : Int) < (ss.length : Int) := Int.ofNat_lt.2 hlt
    have h0I : (0 : Int) ≤ (i : Int) := Int.natCast_nonneg i
    rw [camp_planned.l0, if_pos hltI, if_pos h0I, if_pos hltI, cwithin_ok s1 s2, wrap_succ hle]
    simp only [Option.bind_some, if_true]
    rw [cwithin_ok s3 s4]
    simp only [Option.bind_some, if_true]
    have h6 : (rd_T58 ss (i : Int)).f1 ≤ (rd_T58 ss (i : Int)).f2 - 1 := Int.le_sub_one_of_lt s6
    rw [wrap_pred (Int.le_trans (by decide) s3) (Int.le_trans s4 (Int.le_trans q3 (by decide))), cwithin_ok s5 h6]
    simp only [Option.bind_some, if_true]
    rw [cwithin_ok s7 s8]
    simp only [Option.bind_some, if_true]
    exact ih (i + 1) k (by omega) (by omega)
theorem planned_ok {P lv bu : Int} {ss : List S58} {s : Nat} (h : CampG P lv bu ss s) : camp_planned.f 10 P lv bu ss = some true := by
  exact planned_go h ss.length 0 10 (Nat.zero_add _) (by have := h.n2; omega)

def costV (ss : List S58) (l : List Int) : Int := (l.map (fun i => (rd_T58 ss i).f0)).sum
def InS (ss : List S58) (l : List Int) : Prop := ∀ i ∈ l, 0 ≤ i ∧ i < ss.length
theorem cost_at {P lv bu : Int} {ss : List S58} {s : Nat} (h : CampG P lv bu ss s) {i : Int} (h0 : 0 ≤ i) (h1 : i < ss.length) : 0 ≤ (rd_T58 ss i).f0 ∧ (rd_T58 ss i).f0 ≤ 1000000 := by
  obtain ⟨n, rfl⟩ := Int.eq_ofNat_of_zero_le h0
  have := h.site n (by omega)
  exact ⟨this.1, this.2.1⟩
theorem rd_drop {l : List Int} {j : Nat} (h : j < l.length) : rd l (j : Int) = l[j] := by
  simp [rd, List.getD_eq_getElem?_getD, h]
theorem wrap_add {n c : Int} {m : Int} (h0 : 0 ≤ n) (h1 : n ≤ m) (c0 : 0 ≤ c) (c1 : c ≤ 1000000) (hm : m ≤ 100000000) : wrap64 (n + c) = n + c := by unfold wrap64; omega
theorem cost_go {P lv bu : Int} {ss : List S58} {s : Nat} (h : CampG P lv bu ss s) {l : List Int} (hl : InS ss l) (h100 : l.length ≤ 100) : ∀ (d j k : Nat) (n : Int), j + d = l.length → d < k → 0 ≤ n → n ≤ 1000000 * (j : Int) →
    camp_cost.l0 k n l l.length j P lv bu ss = some (n + costV ss (l.drop j)) := by
  intro d
  induction d with
  | zero =>
    intro j k n hj hk _ _
    obtain ⟨k, rfl⟩ : ∃ m, k = m + 1 := ⟨k - 1, by omega⟩
    rw [camp_cost.l0, if_neg (by omega), List.drop_of_length_le (by omega)]
    simp [costV]
  | succ d ih =>
    intro j k n hj hk h0 h1
    obtain ⟨k, rfl⟩ : ∃ m, k = m + 1 := ⟨k - 1, by omega⟩
    have hlt : j < l.length := by omega
    have hltI : (j : Int) < (l.length : Int) := Int.ofNat_lt.2 hlt
    obtain ⟨g0, g1⟩ := hl _ (List.getElem_mem hlt)
    obtain ⟨c0, c1⟩ := cost_at h g0 g1
    rw [camp_cost.l0, if_pos hltI, if_pos (Int.natCast_nonneg j), if_pos hltI, rd_drop hlt, if_pos g0, if_pos g1, wrap_succ (by omega), wrap_add h0 h1 c0 c1 (by omega),
      ih (j + 1) k _ (by omega) (by omega) (by omega) (by push_cast; omega), List.drop_eq_getElem_cons hlt]
    simp only [costV, List.map_cons, List.sum_cons, Option.some.injEq]
    omega
theorem cost_ok {P lv bu : Int} {ss : List S58} {s : Nat} (h : CampG P lv bu ss s) {l : List Int} (hl : InS ss l) (h100 : l.length ≤ 100) {k : Nat} (hk : l.length < k) : camp_cost.f k P lv bu ss l = some (costV ss l) := by
  have := cost_go h hl h100 l.length 0 k 0 (Nat.zero_add _) hk (Int.le_refl _) (Int.le_refl _)
  rw [Int.zero_add, List.drop_zero] at this
  exact this
structure ChoiceG (bu : Int) (ss : List S58) (l : List Int) : Prop where
  n1 : 1 ≤ l.length
  n3 : l.length ≤ 3
  inS : InS ss l
  up : ∀ j : Nat, 0 < j → (h : j < l.length) → l[j - 1]'(by omega) < l[j]
  cost : costV ss l ≤ bu
theorem wrap_predN {j : Nat} (h : 0 < j) (h2 : j ≤ 1000000) : wrap64 ((j : Int) - 1) = ((j - 1 : Nat) : Int) := by unfold wrap64; omega
theorem chosen_go {P lv bu : Int} {ss : List S58} {s : Nat} (h : CampG P lv bu ss s) {l : List Int} (hc : ChoiceG bu ss l) : ∀ (d j k : Nat), j + d = l.length → d + 5 < k →
    camp_chosen.l0 k l l l.length j P lv bu ss = some true := by
  intro d
  induction d with
  | zero =>
    intro j k hj hk
    obtain ⟨k, rfl⟩ : ∃ m, k = m + 1 := ⟨k - 1, by omega⟩
    rw [camp_chosen.l0, if_neg (by omega), cwithin_ok (a := (l.length : Int)) (b := 1) (c := 3) (by have := hc.n1; omega) (by have := hc.n3; omega)]
    simp only [Option.bind_some, if_true]
    rw [cost_ok h hc.inS (by have := hc.n3; omega) (by have := hc.n3; omega)]
    simp only [Option.bind_some, decide_eq_true hc.cost]
  | succ d ih =>
    intro j k hj hk
    obtain ⟨k, rfl⟩ : ∃ m, k = m + 1 := ⟨k - 1, by omega⟩
    have hlt : j < l.length := by omega
    have hltI : (j : Int) < (l.length : Int) := Int.ofNat_lt.2 hlt
    have h3 := hc.n3
    have h1 := h.n1
    have h2 := h.n2
    obtain ⟨g0, g1⟩ := hc.inS _ (List.getElem_mem hlt)
    rw [camp_chosen.l0, if_pos hltI, if_pos (Int.natCast_nonneg j), if_pos hltI, rd_drop hlt, wrap_predN (by omega) (by omega), cwithin_ok g0 (by omega)]
    simp only [Option.bind_some, if_true]
    rw [wrap_succ (by omega)]
    by_cases h0 : 0 < j
    · have h0I : (j : Int) > 0 := by omega
      have hup := hc.up j h0 hlt
      rw [if_pos h0I, wrap_predN h0 (by omega), if_pos (Int.natCast_nonneg _), if_pos (by omega), rd_drop (show j - 1 < l.length by omega), if_neg (by omega)]
      exact ih (j + 1) k (by omega) (by omega)
    · rw [if_neg (by omega)]
      exact ih (j + 1) k (by omega) (by omega)
theorem chosen_ok {P lv bu : Int} {ss : List S58} {s : Nat} (h : CampG P lv bu ss s) {l : List Int} (hc : ChoiceG bu ss l) : camp_chosen.f 20 P lv bu ss l = some true :=
  chosen_go h hc l.length 0 20 (Nat.zero_add _) (by have := hc.n3; omega)
end Go.Proofs.Yteigcddmbpfahaa.Cn
