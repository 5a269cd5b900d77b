/- Contracts of package count: two lists compared, the watches of a change; the reference's weight of all outcomes. -/
import Derived.Test.YtgofaifmbjallaaC3
import Derived.WalkMore

namespace Go.Proofs.Ytgofaifmbjallaa.Cn
set_option linter.unusedVariables false
open Go.RowKit Go.Proofs.YtgofaifmbjallaaW.PrintWords Go.Proofs.YtgofaifmbjallaaW.PrintLast Go.Proofs.YtgofaifmbjallaaW.PrintMore

def allRefV (slots D : Int) : Int × Bool := if 12 < slots then (0, false) else if (wholeL D slots.toNat 1).2 = 0 then ((wholeL D slots.toNat 1).1, true) else (0, false)
def overburdenref07_All.f (a0 a1 : Int) : Option (Int × Bool) := if 2 ≤ a1 ∧ a1 ≤ 1000 ∧ a0 ≤ 9223372036854775807 then some (allRefV a0 a1) else none

set_option maxHeartbeats 1000000 in
theorem overburdenref07_All.calls (a0 : Int) (a1 : Int) (r1 : Int) (r2 : Bool) (w : World) (h : overburdenref07_All.f a0 a1 = some (r1, r2)) :
    Calls Try.prog 26 #[.int .i64 a0, .int .i64 a1] w fun e w' => e = .returned (.tuple #[.int .i64 r1, .bool r2]) ∧ Below w.heap.size w w' := by
  unfold overburdenref07_All.f at h
  split at h
  · rename_i hd
    obtain ⟨g1, g2, g3⟩ := hd
    simp only [Option.some.injEq] at h
    obtain ⟨s, hs⟩ : ∃ s : Nat, a0.toNat = s := ⟨_, rfl⟩
    rw [allRefV, hs] at h
    obtain ⟨R, hR⟩ : ∃ R, wholeL a1 s 1 = R := ⟨_, rfl⟩
    rw [hR] at h
    have H0 := Lib.hid (show wholeL a1 (s - 0) 1 = R from hR)
    clear hR
    have HR0 := Lib.hid h
    clear h
    go_enter Try.func26, Try.ntmps26
    go_wp2_with fail
    go_loop [6, 7] (fun v6 i => ∃ (j : Nat) (n : Int), v6 = .int .i64 n ∧ i = .int .i64 j ∧ (j : Int) ≤ 12 ∧ (j ≤ s) ∧ 1 ≤ n ∧ n ≤ 1152921504606846976 ∧ Hid (wholeL a1 (s - j) n = R)) (fun _ i => s - (intOf i).toNat)
    case atStart => exact ⟨0, 1, rfl, rfl, by omega, by omega, by omega, by omega, H0⟩
    case round =>
      obtain ⟨j, n, rfl, rfl, hj, hjs, n1, n2, HR⟩ := hrel
      by_cases hlt : (j : Int) < a0
      · by_cases h12 : 12 ≤ (j : Int)
        · have hr := HR0.out
          rw [if_pos (by omega)] at hr
          simp only [Prod.mk.injEq] at hr
          have HX := Lib.hid hr
          clear hr HR0
          go_wp2
          go_ret2
          obtain ⟨rfl, rfl⟩ := HX.out
          exact ⟨rfl, Below.refl _ _⟩
        · have hR := HR.out
          rw [show s - j = (s - (j + 1)) + 1 by omega, wholeL] at hR
          have hb12 : decide (12 ≤ (j : Int)) = false := decide_eq_false h12
          rcases Classical.em (1152921504606846976 / a1 < n) with hq | hq
          · rw [if_pos hq] at hR
            have hqb : decide (1152921504606846976 / a1 < n) = true := decide_eq_true hq
            have hr := HR0.out
            rw [← hR] at hr
            simp only [show ¬ ((3 : Int) = 0) by decide, if_false, ite_self, Prod.mk.injEq] at hr
            have HX := Lib.hid hr
            clear HR hR hq hr HR0
            go_wp2
            go_ret2
            obtain ⟨rfl, rfl⟩ := HX.out
            exact ⟨rfl, Below.refl _ _⟩
          · rw [if_neg hq] at hR
            have HR2 := Lib.hid hR
            have hqb : decide (1152921504606846976 / a1 < n) = false := decide_eq_false hq
            have m1 : 1 ≤ n * a1 := by have := Int.mul_le_mul n1 (show 1 ≤ a1 by omega) (by omega) (by omega); simpa using this
            have m2 : n * a1 ≤ 1152921504606846976 := by
              have := Int.mul_le_of_le_ediv (show 0 < a1 by omega) (show n ≤ 1152921504606846976 / a1 by omega)
              exact this
            clear HR hR hq
            go_wp2
            go_round
            case rel => exact ⟨j + 1, _, rfl, by go_num, by omega, by omega, m1, m2, HR2⟩
            case measure => simp [intOf]; omega
      · have hR := HR.out
        rw [show s - j = 0 by omega, wholeL] at hR
        have hr := HR0.out
        rw [← hR, if_neg (by omega), if_pos rfl] at hr
        simp only [Prod.mk.injEq] at hr
        have HX := Lib.hid hr
        clear HR hR hr HR0
        go_wp2
        go_ret2
        obtain ⟨rfl, rfl⟩ := HX.out
        exact ⟨rfl, Below.refl _ _⟩
  · cases h
end Go.Proofs.Ytgofaifmbjallaa.Cn

namespace Go.Proofs.Ytgofaifmbjallaa.Cn
set_option linter.unusedVariables false
open Go.RowKit Go.Proofs.YtgofaifmbjallaaW.PrintWords Go.Proofs.YtgofaifmbjallaaW.PrintLast Go.Proofs.YtgofaifmbjallaaW.PrintMore

def cmpV (X Y : Nat → KS) (D : Nat) : Int :=
  if cnt (D + 1) X = 0 ∨ cnt (D + 1) Y = 0 then 1
  else if (hullL (spansS X D)).f1 < (hullL (spansS Y D)).f0 then 2
  else if (hullL (spansS Y D)).f1 < (hullL (spansS X D)).f0 then 3 else 1
def cmpE (l0 l1 : List Bool) (D lv : Int) : Int := if l0.length ≤ 4000 ∧ listedV l1.length D true ≠ 0 then listedV l1.length D true else listedV l0.length D (withinB lv 2 450000)
def count_Compare.f (l0 l1 : List Bool) (a2 a3 : Int) : Option (Int × Int) :=
  if cmpE l0 l1 a2 a3 = 0 then some (cmpV (runS a2 (2 * a3) l0 start) (runS a2 (2 * a3) l1 start) a2.toNat, 0) else some (0, cmpE l0 l1 a2 a3)

theorem cmpE_ok {l0 l1 : List Bool} {D lv : Int} (h : cmpE l0 l1 D lv = 0) : listedV l0.length D (withinB lv 2 450000) = 0 ∧ listedV l1.length D true = 0 := by
  unfold cmpE at h
  split at h
  · rename_i hh; exact absurd h hh.2
  · rename_i hh
    refine ⟨h, ?_⟩
    have := listedV_ok h
    rcases Classical.em (listedV l1.length D true = 0) with h1 | h1
    · exact h1
    · exact absurd ⟨this.2.2.1, h1⟩ hh

set_option linter.unusedSimpArgs false
set_option maxRecDepth 100000 in
set_option maxHeartbeats 4000000 in
theorem count_Compare.calls (A0 : Option Addr) (c0 : Nat) (l0 : List Bool) (A1 : Option Addr) (c1 : Nat) (l1 : List Bool) (a2 : Int) (a3 : Int) (r1 r2 : Int) (w : World)
    (hr0 : Kd.C Kd.bool w A0 l0.length l0) (hc0 : l0.length ≤ c0) (hr1 : Kd.C Kd.bool w A1 l1.length l1) (hc1 : l1.length ≤ c1) (h : count_Compare.f l0 l1 a2 a3 = some (r1, r2)) :
    Calls Try.prog 44 #[.slice A0 l0.length c0, .slice A1 l1.length c1, .int .i64 a2, .int .i64 a3] w fun e w' => e = .returned (.tuple #[.int .i64 r1, .int .i64 r2]) ∧ Below w.heap.size w w' := by
  have hS := SlotsAt.of_C hr0
  have hT := SlotsAt.of_C hr1
  have hlen := Kd.C_max hr0
  have hlen1 := Kd.C_max hr1
  obtain ⟨wa, hwa⟩ : ∃ wa, wa = w.alloc (.cells #[.int .i64 a3] 3 (0, 0)) := ⟨_, rfl⟩
  have hb1 : Blk wa w.heap.size #[.int .i64 a3] 3 := by rw [hwa]; exact Blk.new w _ _
  have hw1 : Below w.heap.size w wa := by rw [hwa]; exact (Below.refl w.heap.size w).alloc (Nat.le_refl _) _
  have hz1 : wa.heap.size = w.heap.size + 1 := by rw [hwa]; simp
  have HL1 := Lib.hid (listed_calls A1 l1.length c1 a2 75 #[] true wa hlen1 (fun _ => by simp [go_sem]) (fun _ _ _ => compare1_calls _))
  have HL0 := Lib.hid (listed_calls A0 l0.length c0 a2 76 #[.pointer (some ⟨w.heap.size, 0, none⟩)] (withinB a3 2 450000) wa hlen (fun _ => by simp [go_sem]) (fun _ _ _ => compare2_calls _ a3 _ (hb1.cell 0)))
  have HS1 := Lib.hid (hS.below hw1)
  have HT1 := Lib.hid (hT.below hw1)
  have HW1 := Lib.hid hw1
  have HZ1 := Lib.hid hz1
  have HB1 := Lib.hid hb1
  have HV := Lib.hid h
  have HWA := Lib.hid hwa
  have cl := hb1.cell 0
  simp at cl
  clear hS hT hw1 hz1 hb1 hr0 hc0 hr1 hc1 h hwa
  rcases Classical.em (cmpE l0 l1 a2 a3 = 0) with he | he
  · obtain ⟨he0, he1⟩ := cmpE_ok he
    obtain ⟨d2, d3, d4, hf⟩ := listedV_ok he0
    obtain ⟨_, _, d5, _⟩ := listedV_ok he1
    obtain ⟨D, rfl⟩ := Int.eq_ofNat_of_zero_le (show 0 ≤ a2 by omega)
    have hv := HV.out
    rw [count_Compare.f, if_pos he] at hv
    rw [withinB_iff] at hf
    obtain ⟨hA1, hA2⟩ := hf
    rw [he0] at HL0
    rw [he1] at HL1
    have hlb : decide ((l0.length : Int) ≤ 4000) = true := decide_eq_true (by omega)
    simp only [Int.toNat_natCast, Option.some.injEq, Prod.mk.injEq] at hv
    have HV2 := Lib.hid hv
    clear he he0 he1 HV hv
    go_enter Try.func44, Try.ntmps44
    go_wp2_with fail
    rw [← HWA.out]
    refine HL1.out.mono ?_
    rintro e w2 ⟨rfl, rfl⟩
    go_wp2_with fail
    refine HL0.out.mono ?_
    rintro e w2 ⟨rfl, rfl⟩
    go_wp2_with fail
    have HWd := Lib.hid (show Below w.heap.size w wa.drew from HW1.out.drew)
    have HSd := Lib.hid (show SlotsAt wa.drew w.heap.size A0 l0 from HS1.out)
    have HTd := Lib.hid (show SlotsAt wa.drew w.heap.size A1 l1 from HT1.out)
    have HBd := Lib.hid (show Blk wa.drew _ _ _ from HB1.out)
    have HZd := Lib.hid (show wa.drew.heap.size = w.heap.size + 1 from HZ1.out)
    have hm2 : IntKind.i64.wrap (2 * a3) = 2 * a3 := by rw [IntKind.wrap_i64]; omega
    refine wp_region_held_drew (S := fun w' => w'.cell? ⟨w.heap.size, 0, none⟩ = some (.int .i64 a3)) (by kernel_rfl) cl (fun hS0 => ?_)
    refine wpAnyH_take (i := 0) (v := .int .i64 (D : Int)) rfl (by kernel_rfl) (by kernel_rfl) (by kernel_rfl) (fun _ _ _ h => h) (Or.inl ⟨by rfl, fun w' hSw => by (try dsimp only at hSw); go_simp⟩) (by assumption) ?_
    try simp only [Act.put, List.getElem_toArray, List.getElem_cons_zero, List.getElem_cons_succ, List.setIfInBounds_toArray, List.set_cons_zero, List.set_cons_succ]
    refine wpAnyH_take (i := 1) (v := .int .i64 a3) rfl (by kernel_rfl) (by kernel_rfl) (by kernel_rfl) (fun _ _ _ h => h) (Or.inl ⟨by rfl, fun w' hSw => by (try dsimp only at hSw); go_simp⟩) (by assumption) ?_
    try simp only [Act.put, List.getElem_toArray, List.getElem_cons_zero, List.getElem_cons_succ, List.setIfInBounds_toArray, List.set_cons_zero, List.set_cons_succ]
    refine wpAnyH_take (i := 2) (v := .int .i64 (2 * a3)) rfl (by kernel_rfl) (by kernel_rfl) (by kernel_rfl) (fun _ _ _ h => h) (Or.inl ⟨by rfl, fun w' hSw => by (try dsimp only at hSw); go_simp⟩) (by assumption) ?_
    try simp only [Act.put, List.getElem_toArray, List.getElem_cons_zero, List.getElem_cons_succ, List.setIfInBounds_toArray, List.set_cons_zero, List.set_cons_succ]
    refine wpAnyH_take (i := 4) (v := .slice A0 l0.length c0) rfl (by kernel_rfl) (by kernel_rfl) (by kernel_rfl) (fun _ _ _ h => h) (Or.inl ⟨by rfl, fun w' hSw => by (try dsimp only at hSw); go_simp⟩) (by assumption) ?_
    try simp only [Act.put, List.getElem_toArray, List.getElem_cons_zero, List.getElem_cons_succ, List.setIfInBounds_toArray, List.set_cons_zero, List.set_cons_succ]
    refine wpAnyH_take (i := 6) (v := .int .i64 (D : Int)) rfl (by kernel_rfl) (by kernel_rfl) (by kernel_rfl) (fun _ _ _ h => h) (Or.inl ⟨by rfl, fun w' hSw => by (try dsimp only at hSw); go_simp⟩) (by assumption) ?_
    try simp only [Act.put, List.getElem_toArray, List.getElem_cons_zero, List.getElem_cons_succ, List.setIfInBounds_toArray, List.set_cons_zero, List.set_cons_succ]
    refine wpAnyH_take (i := 7) (v := .int .i64 a3) rfl (by kernel_rfl) (by kernel_rfl) (by kernel_rfl) (fun _ _ _ h => h) (Or.inl ⟨by rfl, fun w' hSw => by (try dsimp only at hSw); go_simp⟩) (by assumption) ?_
    try simp only [Act.put, List.getElem_toArray, List.getElem_cons_zero, List.getElem_cons_succ, List.setIfInBounds_toArray, List.set_cons_zero, List.set_cons_succ]
    refine wpAnyH_take (i := 8) (v := .int .i64 (2 * a3)) rfl (by kernel_rfl) (by kernel_rfl) (by kernel_rfl) (fun _ _ _ h => h) (Or.inl ⟨by rfl, fun w' hSw => by (try dsimp only at hSw); go_simp⟩) (by assumption) ?_
    try simp only [Act.put, List.getElem_toArray, List.getElem_cons_zero, List.getElem_cons_succ, List.setIfInBounds_toArray, List.set_cons_zero, List.set_cons_succ]
    refine wpAnyH_take (i := 10) (v := .slice A1 l1.length c1) rfl (by kernel_rfl) (by kernel_rfl) (by kernel_rfl) (fun _ _ _ h => h) (Or.inl ⟨by rfl, fun w' hSw => by (try dsimp only at hSw); go_simp⟩) (by assumption) ?_
    try simp only [Act.put, List.getElem_toArray, List.getElem_cons_zero, List.getElem_cons_succ, List.setIfInBounds_toArray, List.set_cons_zero, List.set_cons_succ]
    refine wpAnyH_ready (rs := [3]) (by kernel_rfl) (by simp) ?_
    refine AllReadyH.cons (o := _) rfl (fun K hK => ?_) AllReadyH.nil
    go_simp
    refine (begin_calls D (2 * a3) _ (by omega)).mono ?_
    rintro e w3 ⟨B, L, o, cap, rfl, hb3, hB, hL, hS3⟩
    go_wp2_with fail
    have HS3 := Lib.hid hS3
    have HW3 := Lib.hid (HWd.out.trans (hb3.mono HWd.out.size))
    have HSl3 := Lib.hid (HSd.out.below (Below.mono hb3 HWd.out.size))
    have HT3 := Lib.hid (HTd.out.below (Below.mono hb3 HWd.out.size))
    have HB3 := Lib.hid (HBd.out.below hb3 HBd.out.lt)
    rw [HZd.out] at hB hL
    refine hK.out _ _ (HB3.out.cell 0) (fun hHeld3 => ?_)
    clear hK K hb3 hS3
    try simp only [Act.put, List.getElem_toArray, List.getElem_cons_zero, List.getElem_cons_succ, List.setIfInBounds_toArray, List.set_cons_zero, List.set_cons_succ]
    refine wpAnyH_ready (rs := [5]) (by kernel_rfl) (by simp) ?_
    refine AllReadyH.cons (o := _) rfl (fun K hK => ?_) AllReadyH.nil
    go_simp
    refine (run_calls B L o cap D 0 (2 * a3) start A0 c0 w.heap.size l0 _ HS3.out (by omega) (by omega) (InvS.start D) (by omega) HSl3.out (by omega) (by omega) (by omega) (by omega)).mono ?_
    rintro e w4 ⟨rfl, kk4, hS4⟩
    go_wp2_with fail
    have HS4 := Lib.hid hS4
    have HW4 := Lib.hid (HW3.out.trans (kk4.below HW3.out.size (by simp; omega)))
    have HT4 := Lib.hid (HT3.out.below (kk4.below HW3.out.size (by simp; omega)))
    have HB4 := Lib.hid (HB3.out.keep kk4 (by simp; omega))
    have hlt4 := hS4.lt
    refine hK.out _ _ (HB4.out.cell 0) (fun hHeld4 => ?_)
    clear hK K hS4 kk4 hHeld3
    try simp only [Act.put, List.getElem_toArray, List.getElem_cons_zero, List.getElem_cons_succ, List.setIfInBounds_toArray, List.set_cons_zero, List.set_cons_succ]
    refine wpAnyH_ready (rs := [9]) (by kernel_rfl) (by simp) ?_
    refine AllReadyH.cons (o := _) rfl (fun K hK => ?_) AllReadyH.nil
    go_simp
    refine (begin_calls D (2 * a3) _ (by omega)).mono ?_
    rintro e w5 ⟨B2, L2, o2, cap2, rfl, hb5, hB2, hL2, hS5⟩
    go_wp2_with fail
    have HS5 := Lib.hid hS5
    have HX5 := Lib.hid (HS4.out.below hb5 hlt4.1 hlt4.2)
    have HW5 := Lib.hid (HW4.out.trans (hb5.mono HW4.out.size))
    have HT5 := Lib.hid (HT4.out.below (Below.mono hb5 HW4.out.size))
    have HB5 := Lib.hid (HB4.out.below hb5 HB4.out.lt)
    have hlt5 := HW4.out.size
    have hbl5 := HB4.out.lt
    refine hK.out _ _ (HB5.out.cell 0) (fun hHeld5 => ?_)
    clear hK K hb5 hS5 hHeld4
    try simp only [Act.put, List.getElem_toArray, List.getElem_cons_zero, List.getElem_cons_succ, List.setIfInBounds_toArray, List.set_cons_zero, List.set_cons_succ]
    refine wpAnyH_ready (rs := [11]) (by kernel_rfl) (by simp) ?_
    refine AllReadyH.cons (o := _) rfl (fun K hK => ?_) AllReadyH.nil
    go_simp
    refine (run_calls B2 L2 o2 cap2 D 0 (2 * a3) start A1 c1 w.heap.size l1 _ HS5.out (by omega) (by omega) (InvS.start D) (by omega) HT5.out (by omega) (by omega) (by omega) (by omega)).mono ?_
    rintro e w6 ⟨rfl, kk6, hS6⟩
    go_wp2_with fail
    have HS6 := Lib.hid hS6
    have HX6 := Lib.hid (HX5.out.keep kk6 (by simp; omega) (by simp; omega))
    have HW6 := Lib.hid (HW5.out.trans (kk6.below HW5.out.size (by simp; omega)))
    refine hK.out _ _ ((HB5.out.keep kk6 (by simp; omega)).cell 0) (fun hHeld6 => ?_)
    clear hK K hS6 kk6 hHeld5
    try simp only [Act.put, List.getElem_toArray, List.getElem_cons_zero, List.getElem_cons_succ, List.setIfInBounds_toArray, List.set_cons_zero, List.set_cons_succ]
    refine wpAnyH_take (i := 12) (v := .pointer (some ⟨B, 0, none⟩)) rfl (by kernel_rfl) (by kernel_rfl) (by kernel_rfl) (fun _ _ _ h => h) (Or.inl ⟨by rfl, fun w' hSw => by (try dsimp only at hSw); go_simp⟩) (by assumption) ?_
    try simp only [Act.put, List.getElem_toArray, List.getElem_cons_zero, List.getElem_cons_succ, List.setIfInBounds_toArray, List.set_cons_zero, List.set_cons_succ]
    refine wpAnyH_take (i := 13) (v := .pointer (some ⟨B2, 0, none⟩)) rfl (by kernel_rfl) (by kernel_rfl) (by kernel_rfl) (fun _ _ _ h => h) (Or.inl ⟨by rfl, fun w' hSw => by (try dsimp only at hSw); go_simp⟩) (by assumption) ?_
    try simp only [Act.put, List.getElem_toArray, List.getElem_cons_zero, List.getElem_cons_succ, List.setIfInBounds_toArray, List.set_cons_zero, List.set_cons_succ]
    refine wpAnyH_done (by kernel_rfl) ?_ _
    have k1 := HX6.out.cells.2.1
    have k2 := HS6.out.cells.2.1
    have hv := HV2.out
    rw [cmpV] at hv
    have HR := Lib.hid hv.1
    have hr2 := hv.2
    subst hr2
    clear hv HV2 hHeld6
    generalize hX : runS (D : Int) (2 * a3) l0 start = X at *
    generalize hY : runS (D : Int) (2 * a3) l1 start = Y at *
    rcases Classical.em (cnt (D + 1) X = 0) with hx | hx
    · rw [hx] at k1
      have hr := HR.out
      rw [if_pos (Or.inl hx)] at hr
      subst hr
      clear hx HR
      go_wp2
      go_ret2
      exact ⟨rfl, HW6.out⟩
    · have hxb : (cnt (D + 1) X == 0) = false := by simpa using hx
      rcases Classical.em (cnt (D + 1) Y = 0) with hy | hy
      · rw [hy] at k2
        have hr := HR.out
        rw [if_pos (Or.inr hy)] at hr
        subst hr
        clear hx hy HR
        go_wp2
        go_ret2
        exact ⟨rfl, HW6.out⟩
      · have hyb : (cnt (D + 1) Y == 0) = false := by simpa using hy
        have hr := HR.out
        rw [if_neg (fun h => h.elim hx hy)] at hr
        have HR2 := Lib.hid hr
        have HNX := Lib.hid (spans_ne hx)
        have HNY := Lib.hid (spans_ne hy)
        have HBX := Lib.hid (hull_bd (S := X) (D := D) (by omega) (spans_ne hx))
        have HBY := Lib.hid (hull_bd (S := Y) (D := D) (by omega) (spans_ne hy))
        clear hx hy hr HR
        go_wp2_with fail
        refine (hull_calls B L o cap D (2 * a3) _ _ _ HX6.out (by omega) HNX.out (spans_le _ (by omega))).mono ?_
        rintro e w7 ⟨rfl, hb7⟩
        have HS7 := Lib.hid (HS6.out.below hb7 HS6.out.lt.1 HS6.out.lt.2)
        have HW7 := Lib.hid (HW6.out.trans (hb7.mono HW6.out.size))
        clear hb7 k1 k2
        generalize (hullL (spansS X D)).f0 = x0 at *
        generalize (hullL (spansS X D)).f1 = x1 at *
        go_wp2_with fail
        refine (hull_calls B2 L2 o2 cap2 D (2 * a3) _ _ _ HS7.out (by omega) HNY.out (spans_le _ (by omega))).mono ?_
        rintro e w8 ⟨rfl, hb8⟩
        have HW8 := Lib.hid (HW7.out.trans (hb8.mono HW7.out.size))
        clear hb8
        generalize (hullL (spansS Y D)).f0 = y0 at *
        generalize (hullL (spansS Y D)).f1 = y1 at *
        have hr := HR2.out
        rcases Classical.em (x1 < y0) with h1 | h1
        · have q1 : decide (x1 < y0) = true := decide_eq_true h1
          rw [if_pos h1] at hr
          subst hr
          clear h1
          go_wp2
          go_ret2
          exact ⟨rfl, (HW8.out.alloc HW8.out.size _).alloc (by have := HW8.out.size; simp; omega) _⟩
        · have q1 : decide (x1 < y0) = false := decide_eq_false h1
          rw [if_neg h1] at hr
          rcases Classical.em (y1 < x0) with h2 | h2
          · have q2 : decide (y1 < x0) = true := decide_eq_true h2
            rw [if_pos h2] at hr
            subst hr
            clear h1 h2
            go_wp2
            go_ret2
            exact ⟨rfl, (HW8.out.alloc HW8.out.size _).alloc (by have := HW8.out.size; simp; omega) _⟩
          · have q2 : decide (y1 < x0) = false := decide_eq_false h2
            rw [if_neg h2] at hr
            subst hr
            clear h1 h2
            go_wp2
            go_ret2
            exact ⟨rfl, (HW8.out.alloc HW8.out.size _).alloc (by have := HW8.out.size; simp; omega) _⟩
  · have hv := HV.out
    rw [count_Compare.f, if_neg he] at hv
    simp only [Option.some.injEq, Prod.mk.injEq] at hv
    unfold cmpE at he hv
    by_cases h1 : l0.length ≤ 4000
    · have hlb : decide ((l0.length : Int) ≤ 4000) = true := decide_eq_true (by omega)
      by_cases h2 : listedV l1.length a2 true = 0
      · rw [if_neg (fun hh => hh.2 h2)] at he hv
        rw [h2] at HL1
        generalize listedV l0.length a2 (withinB a3 2 450000) = r at *
        have hx : (r != 0) = true := by simpa using he
        have hx2 : (r == 0) = false := by simpa using he
        have HV2 := Lib.hid hv
        clear he HV hv h2
        go_enter Try.func44, Try.ntmps44
        go_wp2_with fail
        rw [← HWA.out]
        refine HL1.out.mono ?_
        rintro e w2 ⟨rfl, rfl⟩
        go_wp2_with fail
        refine HL0.out.mono ?_
        rintro e w2 ⟨rfl, rfl⟩
        go_wp2
        go_ret2
        obtain ⟨rfl, rfl⟩ := HV2.out
        exact ⟨rfl, HW1.out⟩
      · rw [if_pos ⟨h1, h2⟩] at he hv
        generalize listedV l1.length a2 true = r at *
        have hx : (r != 0) = true := by simpa using he
        have hx2 : (r == 0) = false := by simpa using he
        have HV2 := Lib.hid hv
        clear he HV hv h2
        go_enter Try.func44, Try.ntmps44
        go_wp2_with fail
        rw [← HWA.out]
        refine HL1.out.mono ?_
        rintro e w2 ⟨rfl, rfl⟩
        go_wp2
        go_ret2
        obtain ⟨rfl, rfl⟩ := HV2.out
        exact ⟨rfl, HW1.out⟩
    · have hlb : decide ((l0.length : Int) ≤ 4000) = false := decide_eq_false (by omega)
      rw [if_neg (fun hh => h1 hh.1)] at he hv
      generalize listedV l0.length a2 (withinB a3 2 450000) = r at *
      have hx : (r != 0) = true := by simpa using he
      have hx2 : (r == 0) = false := by simpa using he
      have HV2 := Lib.hid hv
      clear he HV hv h1
      go_enter Try.func44, Try.ntmps44
      go_wp2_with fail
      rw [← HWA.out]
      refine HL0.out.mono ?_
      rintro e w2 ⟨rfl, rfl⟩
      go_wp2
      go_ret2
      obtain ⟨rfl, rfl⟩ := HV2.out
      exact ⟨rfl, HW1.out⟩
end Go.Proofs.Ytgofaifmbjallaa.Cn

namespace Go.Proofs.Ytgofaifmbjallaa.Cn
set_option linter.unusedVariables false
open Go.RowKit Go.Proofs.YtgofaifmbjallaaW.PrintWords Go.Proofs.YtgofaifmbjallaaW.PrintLast Go.Proofs.YtgofaifmbjallaaW.PrintMore

/-! What Change tells, and what it does. -/
def wA (lv : Int) (j : Nat) : Int := lv * 2 ^ (j + 1)
def pow2b (i : Nat) : Bool := i == 0 || bits .and .i64 (i : Int) ((i : Int) - 1) == 0
/-- how many watches began before so many slots -/
def nW : Nat → Nat
  | 0 => 0
  | i + 1 => nW i + if pow2b i then 1 else 0
def stepW (D : Nat) (lv : Int) (x : Bool) : List (Nat → KS) → Nat → Option Nat × List (Nat → KS)
  | [], _ => (none, [])
  | S :: r, j => if cnt (D + 1) (stepAll D (wA lv j) x S) = 0 then (some j, []) else ((stepW D lv x r (j + 1)).1, stepAll D (wA lv j) x S :: (stepW D lv x r (j + 1)).2)
def newW (i : Nat) (Ss : List (Nat → KS)) : List (Nat → KS) := if pow2b i then Ss ++ [start] else Ss
def chL (D : Nat) (lv : Int) : List Bool → Nat → List (Nat → KS) → Int × Int × Int
  | [], _, _ => (0, 0, 5)
  | x :: l, i, Ss => match (stepW D lv x (newW i Ss) 0).1 with
    | some j => ((i : Int) + 1, j, 0)
    | none => chL D lv l (i + 1) (stepW D lv x (newW i Ss) 0).2
def count_Change.f (l0 : List Bool) (a1 a2 : Int) : Option (Int × Int × Int) :=
  if listedV l0.length a1 (withinB a2 2 100) = 0 then some (chL a1.toNat a2 l0 0 []) else some (0, 0, listedV l0.length a1 (withinB a2 2 100))

/-- at most twelve watches before one begins -/
def nWok : Nat → Nat → Nat → Bool
  | 0, _, _ => true
  | m + 1, i, n => (!(pow2b i) || decide (n ≤ 12)) && decide (n ≤ 13) && nWok m (i + 1) (n + if pow2b i then 1 else 0)
theorem nWok_spec : ∀ (m i : Nat), nWok m i (nW i) = true → ∀ j, i ≤ j → j < i + m → nW j ≤ 13 ∧ (pow2b j = true → nW j ≤ 12)
  | 0, i, _, j, h1, h2 => by omega
  | m + 1, i, h, j, h1, h2 => by
    rw [nWok, Bool.and_eq_true, Bool.and_eq_true] at h
    rcases Nat.lt_or_ge i j with h3 | h3
    · exact nWok_spec m (i + 1) h.2 j h3 (by omega)
    · obtain rfl : j = i := by omega
      refine ⟨of_decide_eq_true h.1.2, fun hp => ?_⟩
      have := h.1.1
      rw [hp] at this
      simpa using this
theorem nW_le {j : Nat} (h : j < 4001) : nW j ≤ 13 ∧ (pow2b j = true → nW j ≤ 12) :=
  nWok_spec 4001 0 (by decide +kernel) j (Nat.zero_le _) (by omega)

structure Wt where
  B : Nat
  L : Nat
  o : Nat
  cap : Nat
  m : Nat
  S : Nat → KS
structure WsAt (w : World) (base D : Nat) (lv : Int) (i : Nat) (ws : List Wt) : Prop where
  at_ : ∀ j (h : j < ws.length), BetsAt w ws[j].B ws[j].L ws[j].o ws[j].cap D (wA lv j) (cnt (D + 1) ws[j].S) ws[j].S
  ge : ∀ j (h : j < ws.length), base ≤ ws[j].B ∧ base ≤ ws[j].L
  inv : ∀ j (h : j < ws.length), InvS D ws[j].m ws[j].S ∧ ws[j].m ≤ i
  dis : ∀ j1 j2 (h1 : j1 < ws.length) (h2 : j2 < ws.length), j1 ≠ j2 → ws[j1].B ≠ ws[j2].B ∧ ws[j1].B ≠ ws[j2].L ∧ ws[j1].L ≠ ws[j2].B ∧ ws[j1].L ≠ ws[j2].L
structure WRow (w : World) (base : Nat) (v : Value) (ws : List Wt) : Prop where
  own : w.ownsRow base 86 1 v ws.length (ws.map (fun t => Value.pointer (some ⟨t.B, 0, none⟩)))
  far : ∀ k, v.ownBlock = some k → ∀ t ∈ ws, k ≠ t.B ∧ k ≠ t.L
theorem BetsAt.blocks {D : Nat} {w w' : World} {B L o cap : Nat} {A kept : Int} {S : Nat → KS} (h : BetsAt w B L o cap D A kept S) (hB : w'.heap[B]? = w.heap[B]?) (hL : w'.heap[L]? = w.heap[L]?) : BetsAt w' B L o cap D A kept S := by
  obtain ⟨ne, cs, ls, b, l, iB, iL⟩ := h
  exact ⟨ne, cs, ls, hB.trans b, hL.trans l, iB, iL⟩
theorem WsAt.nil (w : World) (base D : Nat) (lv : Int) : WsAt w base D lv 0 [] := ⟨fun j h => absurd h (by simp), fun j h => absurd h (by simp), fun j h => absurd h (by simp), fun j1 _ h => absurd h (by simp)⟩
theorem WRow.nil (w : World) (base : Nat) : WRow w base (.slice none 0 0) [] := ⟨own_nil _ _ _ _, fun k h => by simp [Value.ownBlock] at h⟩
theorem WsAt.blocks {w w' : World} {base D : Nat} {lv : Int} {i : Nat} {ws : List Wt} (h : WsAt w base D lv i ws) (hk : ∀ t ∈ ws, w'.heap[t.B]? = w.heap[t.B]? ∧ w'.heap[t.L]? = w.heap[t.L]?) : WsAt w' base D lv i ws :=
  ⟨fun j hj => (h.at_ j hj).blocks (hk _ (List.getElem_mem hj)).1 (hk _ (List.getElem_mem hj)).2, h.ge, h.inv, h.dis⟩
theorem WsAt.lt {w : World} {base D : Nat} {lv : Int} {i : Nat} {ws : List Wt} (h : WsAt w base D lv i ws) : ∀ t ∈ ws, t.B < w.heap.size ∧ t.L < w.heap.size ∧ base ≤ t.B ∧ base ≤ t.L := by
  intro t ht
  obtain ⟨j, hj, rfl⟩ := List.getElem_of_mem ht
  exact ⟨(h.at_ j hj).lt.1, (h.at_ j hj).lt.2, (h.ge j hj).1, (h.ge j hj).2⟩
/-- a watch more -/
theorem WsAt.add {w : World} {base D : Nat} {lv : Int} {i : Nat} {ws : List Wt} {t : Wt} (h : WsAt w base D lv i ws) (ht : BetsAt w t.B t.L t.o t.cap D (wA lv ws.length) (cnt (D + 1) t.S) t.S) (hi : InvS D t.m t.S) (hm : t.m ≤ i)
    (hb : base ≤ t.B ∧ base ≤ t.L) (hf : ∀ u ∈ ws, u.B < t.B ∧ u.B < t.L ∧ u.L < t.B ∧ u.L < t.L) : WsAt w base D lv i (ws ++ [t]) := by
  have g1 : ∀ j (hj : j < ws.length) (h2 : j < (ws ++ [t]).length), (ws ++ [t])[j] = ws[j] := fun j hj h2 => List.getElem_append_left hj
  have g2 : ∀ (h2 : ws.length < (ws ++ [t]).length), (ws ++ [t])[ws.length] = t := fun h2 => by simp
  have hl : (ws ++ [t]).length = ws.length + 1 := by simp
  have cs : ∀ j (hj : j < (ws ++ [t]).length), j < ws.length ∨ j = ws.length := fun j hj => by omega
  refine ⟨fun j hj => ?_, fun j hj => ?_, fun j hj => ?_, fun j1 j2 h1 h2 hne => ?_⟩
  · rcases cs j hj with hc | rfl
    · rw [g1 j hc]; exact h.at_ j hc
    · rw [g2]; exact ht
  · rcases cs j hj with hc | rfl
    · rw [g1 j hc]; exact h.ge j hc
    · rw [g2]; exact hb
  · rcases cs j hj with hc | rfl
    · rw [g1 j hc]; exact h.inv j hc
    · rw [g2]; exact ⟨hi, hm⟩
  · rcases cs j1 h1 with c1 | rfl
    · rcases cs j2 h2 with c2 | rfl
      · rw [g1 j1 c1, g1 j2 c2]; exact h.dis j1 j2 c1 c2 hne
      · rw [g1 j1 c1, g2]
        have := hf _ (List.getElem_mem c1)
        omega
    · rcases cs j2 h2 with c2 | rfl
      · rw [g1 j2 c2, g2]
        have := hf _ (List.getElem_mem c2)
        omega
      · exact absurd rfl hne
/-- a watch goes on by a slot -/
theorem WsAt.set {w w' : World} {base D : Nat} {lv : Int} {i : Nat} {ws : List Wt} {j : Nat} (hj : j < ws.length) (h : WsAt w base D lv i ws) (hk : Keep [ws[j].B, ws[j].L] w w') {m : Nat} {S' : Nat → KS}
    (ht : BetsAt w' ws[j].B ws[j].L ws[j].o ws[j].cap D (wA lv j) (cnt (D + 1) S') S') (hi : InvS D m S') (hm : m ≤ i) : WsAt w' base D lv i (ws.set j { ws[j] with m := m, S := S' }) := by
  have hl : (ws.set j { ws[j] with m := m, S := S' }).length = ws.length := by simp
  have g1 : ∀ q (hq : q < (ws.set j { ws[j] with m := m, S := S' }).length), (ws.set j { ws[j] with m := m, S := S' })[q].B = (ws[q]'(by omega)).B ∧ (ws.set j { ws[j] with m := m, S := S' })[q].L = (ws[q]'(by omega)).L := by
    intro q hq
    by_cases e : j = q
    · subst e; simp
    · simp [List.getElem_set_ne e]
  refine ⟨fun q hq => ?_, fun q hq => ?_, fun q hq => ?_, fun j1 j2 h1 h2 hne => ?_⟩
  · by_cases e : j = q
    · subst e; simp only [List.getElem_set_self]; exact ht
    · simp only [List.getElem_set_ne e]
      have hd := h.dis j q hj (by omega) e
      exact (h.at_ q (by omega)).keep hk (by simp; omega) (by simp; omega)
  · rw [(g1 q hq).1, (g1 q hq).2]; exact h.ge q (by omega)
  · by_cases e : j = q
    · subst e; simp only [List.getElem_set_self]; exact ⟨hi, hm⟩
    · simp only [List.getElem_set_ne e]
      exact h.inv q (by omega)
  · rw [(g1 j1 h1).1, (g1 j1 h1).2, (g1 j2 h2).1, (g1 j2 h2).2]; exact h.dis j1 j2 (by omega) (by omega) hne
theorem WsAt.up {w : World} {base D : Nat} {lv : Int} {i : Nat} {ws : List Wt} (h : WsAt w base D lv i ws) : WsAt w base D lv (i + 1) ws :=
  ⟨h.at_, h.ge, fun j hj => ⟨(h.inv j hj).1, by have := (h.inv j hj).2; omega⟩, h.dis⟩
theorem WRow.set {w w' : World} {base : Nat} {v : Value} {ws : List Wt} {j : Nat} (hj : j < ws.length) (h : WRow w base v ws) (hk : Keep [ws[j].B, ws[j].L] w w') (m : Nat) (S' : Nat → KS) : WRow w' base v (ws.set j { ws[j] with m := m, S := S' }) := by
  have e : (ws.set j { ws[j] with m := m, S := S' }).map (fun t => Value.pointer (some ⟨t.B, 0, none⟩)) = ws.map (fun t => Value.pointer (some ⟨t.B, 0, none⟩)) := by
    apply List.ext_getElem
    · simp
    · intro q h1 h2
      by_cases e : j = q
      · subst e; simp
      · simp [List.getElem_set_ne e]
  refine ⟨?_, fun k hkk t ht => ?_⟩
  · rw [List.length_set, e]
    refine own_move h.own (fun k hkk => ?_)
    have := h.far k hkk _ (List.getElem_mem hj)
    exact hk.block k (own_lt h.own k hkk) (by simp; omega)
  · obtain ⟨q, hq, rfl⟩ := List.getElem_of_mem ht
    have := h.far k hkk _ (List.getElem_mem (show q < ws.length by simpa using hq))
    by_cases e : j = q
    · subst e; simpa using this
    · simpa [List.getElem_set_ne e] using this
/-- the pointer of a watch, in memory -/
theorem WRow.cell {w : World} {base : Nat} {v : Value} {ws : List Wt} (h : WRow w base v ws) {j : Nat} (hj : j < ws.length) : ∃ ad c, v = .slice (some ad) ws.length c ∧ w.cell? (ad.add j) = some (.pointer (some ⟨ws[j].B, 0, none⟩)) := by
  obtain ⟨hlen, hv⟩ := h.own
  rcases hv with ⟨rfl, h0⟩ | ⟨g, cap, cur, rfl, hb, hh, hn, hm, hs, ht⟩
  · omega
  · refine ⟨_, _, rfl, ?_⟩
    rw [addr0_add]
    have hB : Blk w g cur 86 := hh
    rw [hB.cell]
    have h1 : (cur.toList.take (ws.length * 1))[j]? = (ws.map (fun t => Value.pointer (some ⟨t.B, 0, none⟩)))[j]? := by rw [ht]
    rw [List.getElem?_take_of_lt (by omega)] at h1
    simpa [hj] using h1
theorem WRow.slice {w : World} {base : Nat} {v : Value} {ws : List Wt} (h : WRow w base v ws) : ∃ A c, v = .slice A ws.length c := own_slice h.own
theorem info_pbets : (Try.prog.info? 86).map (fun i => (i.zero, i.size, i.bytes)) = some (some (.pointer none), 1, 8) := by kernel_rfl
end Go.Proofs.Ytgofaifmbjallaa.Cn

namespace Go.Proofs.Ytgofaifmbjallaa.Cn
set_option linter.unusedVariables false
open Go.RowKit Go.Proofs.YtgofaifmbjallaaW.PrintWords Go.Proofs.YtgofaifmbjallaaW.PrintLast Go.Proofs.YtgofaifmbjallaaW.PrintMore

def Ss (ws : List Wt) : List (Nat → KS) := ws.map (fun t => t.S)
def finC (D : Nat) (lv : Int) (l : List Bool) (i : Nat) (pre : List (Nat → KS)) (p : Option Nat × List (Nat → KS)) : Int × Int × Int :=
  match p.1 with
  | some j => ((i : Int) + 1, (j : Int), 0)
  | none => chL D lv l (i + 1) (pre ++ p.2)
theorem finC_start (D : Nat) (lv : Int) (x : Bool) (l : List Bool) (i : Nat) (S : List (Nat → KS)) : chL D lv (x :: l) i S = finC D lv l i [] (stepW D lv x (newW i S) 0) := rfl
theorem finC_snoc (D : Nat) (lv : Int) (l : List Bool) (i : Nat) (pre : List (Nat → KS)) (S' : Nat → KS) (p : Option Nat × List (Nat → KS)) : finC D lv l i pre (p.1, S' :: p.2) = finC D lv l i (pre ++ [S']) p := by
  obtain ⟨o, r⟩ := p
  cases o <;> simp [finC]
/-- at the watch j -/
theorem finC_at {D : Nat} {lv : Int} {x : Bool} {l : List Bool} {i j : Nat} {ws : List Wt} (hj : j < ws.length) :
    (cnt (D + 1) (stepAll D (wA lv j) x ws[j].S) = 0 → finC D lv l i ((Ss ws).take j) (stepW D lv x ((Ss ws).drop j) j) = ((i : Int) + 1, (j : Int), 0)) ∧
    (cnt (D + 1) (stepAll D (wA lv j) x ws[j].S) ≠ 0 → ∀ m, finC D lv l i ((Ss ws).take j) (stepW D lv x ((Ss ws).drop j) j) =
      finC D lv l i ((Ss (ws.set j { ws[j] with m := m, S := stepAll D (wA lv j) x ws[j].S })).take (j + 1)) (stepW D lv x ((Ss (ws.set j { ws[j] with m := m, S := stepAll D (wA lv j) x ws[j].S })).drop (j + 1)) (j + 1))) := by
  have hl : j < (Ss ws).length := by simpa [Ss] using hj
  have e : (Ss ws).drop j = ws[j].S :: (Ss ws).drop (j + 1) := by
    rw [List.drop_eq_getElem_cons hl]; simp [Ss]
  rw [e, stepW]
  refine ⟨fun h => by rw [if_pos h]; rfl, fun h m => ?_⟩
  rw [if_neg h, finC_snoc]
  have e1 : Ss (ws.set j { ws[j] with m := m, S := stepAll D (wA lv j) x ws[j].S }) = (Ss ws).set j (stepAll D (wA lv j) x ws[j].S) := by
    unfold Ss; rw [List.map_set]
  rw [e1, List.drop_set_of_lt (by omega)]
  congr 1
  rw [List.take_succ_eq_append_getElem (by simpa using hl), List.take_set_of_le (Nat.le_refl _)]
  simp
theorem finC_end {D : Nat} {lv : Int} {x : Bool} {l : List Bool} {i : Nat} {ws : List Wt} : finC D lv l i ((Ss ws).take ws.length) (stepW D lv x ((Ss ws).drop ws.length) ws.length) = chL D lv l (i + 1) (Ss ws) := by
  have hl : (Ss ws).length = ws.length := by simp [Ss]
  rw [List.drop_of_length_le (by omega), List.take_of_length_le (by omega), stepW]
  simp [finC]
theorem wA_eq {lv : Int} {n : Nat} (h1 : 2 ≤ lv) (h2 : lv ≤ 100) (hn : n ≤ 12) : wrap64 (lv * 2 ^ (n + 1)) = wA lv n ∧ 2 ≤ wA lv n ∧ wA lv n ≤ 900000 := by
  have e1 : (2 : Nat) ^ (n + 1) ≤ 2 ^ 13 := Nat.pow_le_pow_right (by omega) (by omega)
  have e0 : 1 ≤ (2 : Nat) ^ (n + 1) := Nat.one_le_two_pow
  have e2 : (2 : Int) ^ (n + 1) = ((2 ^ (n + 1) : Nat) : Int) := by simp
  have e3 : lv * ((2 ^ (n + 1) : Nat) : Int) ≤ 100 * 8192 := Int.mul_le_mul h2 (by omega) (by omega) (by omega)
  have e4 : 2 * 1 ≤ lv * ((2 ^ (n + 1) : Nat) : Int) := Int.mul_le_mul h1 (by omega) (by omega) (by omega)
  unfold wA
  rw [e2]
  generalize lv * ((2 ^ (n + 1) : Nat) : Int) = y at *
  unfold wrap64; omega

set_option maxRecDepth 100000 in
set_option maxHeartbeats 4000000 in
theorem count_Change.calls (A0 : Option Addr) (c0 : Nat) (l0 : List Bool) (a1 : Int) (a2 : Int) (r1 r2 r3 : Int) (w : World) (hr0 : Kd.C Kd.bool w A0 l0.length l0) (hc0 : l0.length ≤ c0) (h : count_Change.f l0 a1 a2 = some (r1, r2, r3)) :
    Calls Try.prog 42 #[.slice A0 l0.length c0, .int .i64 a1, .int .i64 a2] w fun e w' => e = .returned (.tuple #[.int .i64 r1, .int .i64 r2, .int .i64 r3]) ∧ Below w.heap.size w w' := by
  have hS := SlotsAt.of_C hr0
  have hlen := Kd.C_max hr0
  obtain ⟨wa, hwa⟩ : ∃ wa, wa = w.alloc (.cells #[.int .i64 a2] 3 (0, 0)) := ⟨_, rfl⟩
  have hb1 : Blk wa w.heap.size #[.int .i64 a2] 3 := by rw [hwa]; exact Blk.new w _ _
  have hw1 : Below w.heap.size w wa := by rw [hwa]; exact (Below.refl w.heap.size w).alloc (Nat.le_refl _) _
  have hz1 : wa.heap.size = w.heap.size + 1 := by rw [hwa]; simp
  have HL := Lib.hid (listed_calls A0 l0.length c0 a1 72 #[.pointer (some ⟨w.heap.size, 0, none⟩)] (withinB a2 2 100) wa hlen (fun _ => by simp [go_sem]) (fun _ _ _ => change1_calls _ a2 _ (hb1.cell 0)))
  have HS1 := Lib.hid (hS.below hw1)
  have HW1 := Lib.hid hw1
  have HZ1 := Lib.hid hz1
  have HB1 := Lib.hid hb1
  have HV := Lib.hid h
  have HWA := Lib.hid hwa
  clear hS hw1 hz1 hb1 hr0 hc0 h hwa
  rcases Classical.em (listedV l0.length a1 (withinB a2 2 100) = 0) with he | he
  · obtain ⟨d2, d3, d4, hf⟩ := listedV_ok he
    obtain ⟨D, rfl⟩ := Int.eq_ofNat_of_zero_le (show 0 ≤ a1 by omega)
    have hv := HV.out
    rw [count_Change.f, if_pos he] at hv
    rw [withinB_iff] at hf
    obtain ⟨hA1, hA2⟩ := hf
    rw [he] at HL
    simp only [Int.toNat_natCast, Option.some.injEq] at hv
    have H0 := Lib.hid (show chL D a2 (l0.drop 0) 0 [] = (r1, r2, r3) from hv)
    clear he HV hv
    go_enter Try.func42, Try.ntmps42
    go_wp2_with fail
    go_step3
    go_wp2_with fail
    rw [← HWA.out]
    refine HL.out.mono ?_
    rintro e w2 ⟨rfl, rfl⟩
    go_wp2_with fail
    go_step3
    go_wp2_with fail
    go_loopw [10, 24] (fun v10 v24 wr => ∃ (i : Nat) (ws : List Wt), v24 = .int .i64 i ∧ i ≤ l0.length ∧ ws.length = nW i ∧ Hid (WRow wr (w.heap.size + 1) v10 ws) ∧ Hid (WsAt wr (w.heap.size + 1) D a2 i ws) ∧ Hid (Below (w.heap.size + 1) wa wr) ∧ Hid (chL D a2 (l0.drop i) i (Ss ws) = (r1, r2, r3))) (fun _ v24 _ => l0.length - (intOf v24).toNat)
    case atStart => exact ⟨0, [], rfl, by omega, rfl, Lib.hid (WRow.nil _ _), Lib.hid (WsAt.nil _ _ _ _), Lib.hid (Below.refl _ _), H0⟩
    case round =>
      obtain ⟨i, ws, rfl, hi, hwl, HRow, HWs, HBr, HR⟩ := hrel
      by_cases hlt : i < l0.length
      · obtain ⟨ad, rfl, hbl, hc⟩ := (HS1.out.below (HBr.out.mono (Nat.le_succ _))) i hlt
        have hbd : (0 : Int) ≤ (i : Int) ∧ (i : Int) < (l0.length : Int) := ⟨by omega, by omega⟩
        have hR := HR.out
        rw [List.drop_eq_getElem_cons hlt] at hR
        generalize l0[i] = x at *
        have HR2 := Lib.hid hR
        clear hR HR
        obtain ⟨hn13, hn12⟩ := nW_le (j := i) (by omega)
        rw [← hwl] at hn13 hn12
        have HWL := Lib.hid hwl
        clear hwl
        have HCx := Lib.hid (HR2.out)
        clear HR2
        cases hp : pow2b i
        · have hnp : ((i : Int) == 0) = false ∧ (bits .and .i64 (i : Int) ((i : Int) - 1) == 0) = false := by
            rw [pow2b, Bool.or_eq_false_iff] at hp
            refine ⟨?_, hp.2⟩
            have := hp.1
            simp at this ⊢
            omega
          obtain ⟨hnp1, hnp2⟩ := hnp
          have hge1 : 1 ≤ (i : Int) := by simp at hnp1; omega
          obtain ⟨As, cs, rfl⟩ := HRow.out.slice
          have HR3 := Lib.hid (show finC D a2 (l0.drop (i + 1)) i [] (stepW D a2 x (Ss ws) 0) = (r1, r2, r3) by have := HCx.out; rw [finC_start, newW, hp] at this; exact this)
          have HRow3 := HRow
          have HWs3 := HWs
          have HB3 := HBr
          clear HCx HRow HWs HBr
          go_wp2_with fail
          have HC0 := Lib.hid (show finC D a2 (l0.drop (i + 1)) i ((Ss (ws)).take 0) (stepW D a2 x ((Ss (ws)).drop 0) 0) = (r1, r2, r3) from HR3.out)
          have HM0 := Lib.hid (show ∀ q (hq : q < (ws).length), 0 ≤ q → (ws)[q].m ≤ i from fun q hq _ => (HWs3.out.inv q hq).2)
          have HWs4 := Lib.hid HWs3.out.up
          clear HR3 HWs3
          go_loopw [50] (fun v50 w2 => ∃ (j : Nat) (ws2 : List Wt), v50 = .int .i64 j ∧ j ≤ ws.length ∧ ws2.length = ws.length ∧ Hid (WRow w2 (w.heap.size + 1) (.slice As ws.length cs) ws2) ∧ Hid (WsAt w2 (w.heap.size + 1) D a2 (i + 1) ws2) ∧ Hid (Below (w.heap.size + 1) wa w2) ∧ Hid (∀ q (hq : q < ws2.length), j ≤ q → ws2[q].m ≤ i) ∧ Hid (finC D a2 (l0.drop (i + 1)) i ((Ss ws2).take j) (stepW D a2 x ((Ss ws2).drop j) j) = (r1, r2, r3))) (fun v50 _ => ws.length - (intOf v50).toNat)
          case atStart => exact ⟨0, ws, rfl, by omega, rfl, HRow3, HWs4, HB3, HM0, HC0⟩
          case round =>
            clear HRow3 HWs4 HB3 HM0 HC0
            obtain ⟨j, ws2, rfl, hj, hl2, HRow2, HWs2, HB2, HM2, HC2⟩ := hrel
            by_cases hjn : j < ws.length
            · have hj2 : j < ws2.length := by omega
              obtain ⟨ad2, ca2, hsl, hcell⟩ := HRow2.out.cell hj2
              rw [hl2] at hsl
              injection hsl with hsl1 hsl2 hsl3
              subst hsl1
              have hbd2 : (0 : Int) ≤ (j : Int) ∧ (j : Int) < ((ws.length : Nat) : Int) := ⟨by omega, by omega⟩
              obtain ⟨_, hbw1, hbw2⟩ := wA_eq (lv := a2) (n := j) hA1 hA2 (by omega)
              have hiv := HWs2.out.inv j hj2
              have hmi := HM2.out j hj2 (Nat.le_refl _)
              obtain ⟨hf0, hfs⟩ := finC_at (D := D) (lv := a2) (x := x) (l := l0.drop (i + 1)) (i := i) hj2
              have HF0 := Lib.hid hf0
              have HFS := Lib.hid hfs
              have HIV := Lib.hid hiv
              have HL2 := Lib.hid hl2
              clear hf0 hfs hiv hl2 hsl2 hsl3
              go_wp2_with fail
              refine (betsNext_calls ws2[j].B ws2[j].L ws2[j].o ws2[j].cap D (wA a2 j) ws2[j].S x _ (HWs2.out.at_ j hj2) (by omega) (HIV.out.1.fit (by omega) (by omega) (by omega)) hbw1 hbw2).mono ?_
              rintro e w4 ⟨rfl, hk4, hS4⟩
              have HS4 := Lib.hid hS4
              have c4 := hS4.cells.2.1
              have HRow4 := Lib.hid (HRow2.out.set hj2 hk4 (ws2[j].m + 1) (stepAll D (wA a2 j) x ws2[j].S))
              have HWs4 := Lib.hid (HWs2.out.set hj2 hk4 (m := ws2[j].m + 1) hS4 (HIV.out.1.step (wA a2 j) x) (by omega))
              have hge := HWs2.out.ge j hj2
              have hzz := HZ1.out
              have HB4 := Lib.hid (HB2.out.trans (hk4.below (B := w.heap.size + 1) (by have := HB2.out.size; omega) (by simp; omega)))
              clear hS4 hk4 hcell
              rcases Classical.em (cnt (D + 1) (stepAll D (wA a2 j) x ws2[j].S) = 0) with hz | hz
              · have hr := HC2.out
                rw [HF0.out hz] at hr
                simp only [Prod.mk.injEq] at hr
                have HX := Lib.hid hr
                rw [hz] at c4
                clear hz hr
                go_wp2
                rw [Exit.noGoto_ret]
                go_ret3
                obtain ⟨rfl, rfl, rfl⟩ := HX.out
                exact ⟨rfl, HW1.out.trans (HB4.out.mono (Nat.le_succ _))⟩
              · have hr := HC2.out
                rw [HFS.out hz (ws2[j].m + 1)] at hr
                have HX := Lib.hid hr
                have hpos := cnt_bd (stepAll D (wA a2 j) x ws2[j].S) (D + 1)
                have hq : decide (0 < cnt (D + 1) (stepAll D (wA a2 j) x ws2[j].S)) = true := decide_eq_true (by omega)
                have HM4 := Lib.hid (show ∀ q (hq : q < (ws2.set j { ws2[j] with m := ws2[j].m + 1, S := stepAll D (wA a2 j) x ws2[j].S }).length), j + 1 ≤ q → (ws2.set j { ws2[j] with m := ws2[j].m + 1, S := stepAll D (wA a2 j) x ws2[j].S })[q].m ≤ i from fun q hq hjq => by
                  rw [List.getElem_set_ne (by omega)]; exact HM2.out q (by simpa using hq) (by omega))
                clear hz hr hpos
                go_wp2
                go_roundw
                case rel => exact ⟨j + 1, _, by go_num, by omega, by rw [List.length_set]; exact HL2.out, HRow4, HWs4, HB4, HM4, HX⟩
                case measure => simp [intOf]; omega
            · obtain rfl : j = ws.length := by omega
              have hr := HC2.out
              rw [← hl2, finC_end] at hr
              have HX := Lib.hid hr
              have hnw : ws2.length = nW (i + 1) := by have := HWL.out; rw [nW, hp]; simp only [if_true, Bool.false_eq_true, if_false]; omega
              clear hr
              go_wp2
              go_roundw
              case rel => exact ⟨i + 1, ws2, by go_num, by omega, hnw, HRow2, HWs2, HB2, HX⟩
              case measure => simp [intOf]; omega
        · have hn := hn12 hp
          have hcl := (HB1.out.below HBr.out (by omega)).cell 0
          simp at hcl
          obtain ⟨As, cs, rfl⟩ := HRow.out.slice
          by_cases hi0 : i = 0
          · have hib : ((i : Int) == 0) = true := by rw [hi0]; rfl
            clear hi0
            have hA0 := wA_eq (lv := a2) (n := ws.length) hA1 hA2 (by omega)
            obtain ⟨hA3, hA4, hA5⟩ := hA0
            go_wp2_with fail
            rw [hA3]
            refine (begin_calls D (wA a2 ws.length) _ (by omega)).mono ?_
            rintro e wb ⟨B, L, o, cap, rfl, hb3, hB, hL, hS3⟩
            have hltw := HWs.out.lt
            have hltn := hS3.lt
            have HS3 := Lib.hid hS3
            have HOb := Lib.hid (own_move HRow.out.own (fun k hk => hb3.block k (own_lt HRow.out.own k hk)))
            have HFar := Lib.hid HRow.out.far
            have HOlt := Lib.hid (own_lt HRow.out.own)
            have HWsb := Lib.hid (HWs.out.blocks (w' := wb) (fun t ht => ⟨hb3.block _ (hltw t ht).1, hb3.block _ (hltw t ht).2.1⟩))
            have HBb := Lib.hid (HBr.out.trans (hb3.mono (show w.heap.size + 1 ≤ wr.heap.size by have h1 := HBr.out.size; have h2 := HZ1.out; omega)))
            have hszb := HBr.out.size
            have hszb2 := hb3.size
            have HLT := Lib.hid hltw
            have HZZ := HZ1.out
            clear hb3 hS3 hltw
            go_wp2_with ((with_reducible refine gate_builtin (b := .append) (xs := #[.tmp 38, .tmp 46]) rfl ?_); at_builtin; refine print_append_cells (w0 := wa) (w.heap.size + 1) rfl (.tmp 38) (.tmp 46) 107 86 (.pointer none) 1 8 rfl Try.underlying107 info_pbets rfl (by decide) (by decide) (.slice As ws.length cs) ws.length (ws.map (fun t => Value.pointer (some ⟨t.B, 0, none⟩))) [.pointer (some ⟨B, 0, none⟩)] rfl rfl rfl (fun u hu => by simp at hu; subst hu; rfl) HOb.out HBb.out (by omega) (by omega) ?_; intro v1 w1 hown1 hB1 hg1 hat1; have HO1 := Lib.hid hown1; have HB1' := Lib.hid hB1; have HG1 := Lib.hid hg1; have HAT := Lib.hid hat1; clear hB1 hg1 hat1; obtain ⟨A1, c1, rfl⟩ := own_slice hown1; clear hown1)
            have HRow3 : Hid (WRow w1 (w.heap.size + 1) (.slice A1 (ws.length + 1) c1) (ws ++ [(⟨B, L, o, cap, 0, start⟩ : Wt)])) := Lib.hid ⟨by have := HO1.out; simpa using this, fun k hk t ht => by
              rw [List.mem_append, List.mem_singleton] at ht
              rcases HAT.out with h1 | ⟨b, h1, h2⟩
              · have hk2 : (Value.slice As ws.length cs).ownBlock = some k := h1.symm.trans hk
                have := HOlt.out k hk2
                rcases ht with ht | rfl
                · exact HFar.out k hk2 t ht
                · simp only; omega
              · have hkb : k = b := by rw [hk] at h1; injection h1
                rcases ht with ht | rfl
                · have := HLT.out t ht; omega
                · simp only; omega⟩
            have HWs3 : Hid (WsAt w1 (w.heap.size + 1) D a2 i (ws ++ [(⟨B, L, o, cap, 0, start⟩ : Wt)])) := Lib.hid ((HWsb.out.add (t := ⟨B, L, o, cap, 0, start⟩) HS3.out (InvS.start D) (Nat.zero_le _) (by simp only; omega) (fun u hu => by have := HLT.out u hu; simp only; omega)).blocks (fun t ht => by
              rw [List.mem_append, List.mem_singleton] at ht
              have hne : ∀ b : Nat, (∀ k, (Value.slice As ws.length cs).ownBlock = some k → k ≠ b) → some b ≠ (Value.slice As ws.length cs).ownBlock := fun b hb he => hb b he.symm rfl
              rcases ht with ht | rfl
              · have h3 := HLT.out t ht
                exact ⟨HG1.out.block _ (by omega) (hne _ (fun k hk => (HFar.out k hk t ht).1)), HG1.out.block _ (by omega) (hne _ (fun k hk => (HFar.out k hk t ht).2))⟩
              · exact ⟨HG1.out.block _ hltn.1 (hne _ (fun k hk => by have := HOlt.out k hk; simp only; omega)), HG1.out.block _ hltn.2 (hne _ (fun k hk => by have := HOlt.out k hk; simp only; omega))⟩))
            have HB3 := HB1'
            have HR3 := Lib.hid (show finC D a2 (l0.drop (i + 1)) i [] (stepW D a2 x (Ss (ws ++ [(⟨B, L, o, cap, 0, start⟩ : Wt)])) 0) = (r1, r2, r3) by have h := HCx.out; rw [finC_start, newW, hp] at h; simpa [Ss] using h)
            clear HCx HRow HWs HBr HOb HWsb HBb HO1 HG1 HAT HLT HS3 HFar HOlt hszb hszb2
            have HC0 := Lib.hid (show finC D a2 (l0.drop (i + 1)) i ((Ss (ws ++ [(⟨B, L, o, cap, 0, start⟩ : Wt)])).take 0) (stepW D a2 x ((Ss (ws ++ [(⟨B, L, o, cap, 0, start⟩ : Wt)])).drop 0) 0) = (r1, r2, r3) from HR3.out)
            have HM0 := Lib.hid (show ∀ q (hq : q < (ws ++ [(⟨B, L, o, cap, 0, start⟩ : Wt)]).length), 0 ≤ q → (ws ++ [(⟨B, L, o, cap, 0, start⟩ : Wt)])[q].m ≤ i from fun q hq _ => (HWs3.out.inv q hq).2)
            have HWs4 := Lib.hid HWs3.out.up
            clear HR3 HWs3
            go_loopw [50] (fun v50 w2 => ∃ (j : Nat) (ws2 : List Wt), v50 = .int .i64 j ∧ j ≤ (ws.length + 1) ∧ ws2.length = (ws.length + 1) ∧ Hid (WRow w2 (w.heap.size + 1) (.slice A1 (ws.length + 1) c1) ws2) ∧ Hid (WsAt w2 (w.heap.size + 1) D a2 (i + 1) ws2) ∧ Hid (Below (w.heap.size + 1) wa w2) ∧ Hid (∀ q (hq : q < ws2.length), j ≤ q → ws2[q].m ≤ i) ∧ Hid (finC D a2 (l0.drop (i + 1)) i ((Ss ws2).take j) (stepW D a2 x ((Ss ws2).drop j) j) = (r1, r2, r3))) (fun v50 _ => (ws.length + 1) - (intOf v50).toNat)
            case atStart => exact ⟨0, ws ++ [(⟨B, L, o, cap, 0, start⟩ : Wt)], rfl, by omega, by simp, HRow3, HWs4, HB3, HM0, HC0⟩
            case round =>
              clear HRow3 HWs4 HB3 HM0 HC0
              obtain ⟨j, ws2, rfl, hj, hl2, HRow2, HWs2, HB2, HM2, HC2⟩ := hrel
              by_cases hjn : j < (ws.length + 1)
              · have hj2 : j < ws2.length := by omega
                obtain ⟨ad2, ca2, hsl, hcell⟩ := HRow2.out.cell hj2
                rw [hl2] at hsl
                injection hsl with hsl1 hsl2 hsl3
                subst hsl1
                have hbd2 : (0 : Int) ≤ (j : Int) ∧ (j : Int) < (((ws.length + 1) : Nat) : Int) := ⟨by omega, by omega⟩
                obtain ⟨_, hbw1, hbw2⟩ := wA_eq (lv := a2) (n := j) hA1 hA2 (by omega)
                have hiv := HWs2.out.inv j hj2
                have hmi := HM2.out j hj2 (Nat.le_refl _)
                obtain ⟨hf0, hfs⟩ := finC_at (D := D) (lv := a2) (x := x) (l := l0.drop (i + 1)) (i := i) hj2
                have HF0 := Lib.hid hf0
                have HFS := Lib.hid hfs
                have HIV := Lib.hid hiv
                have HL2 := Lib.hid hl2
                clear hf0 hfs hiv hl2 hsl2 hsl3
                go_wp2_with fail
                refine (betsNext_calls ws2[j].B ws2[j].L ws2[j].o ws2[j].cap D (wA a2 j) ws2[j].S x _ (HWs2.out.at_ j hj2) (by omega) (HIV.out.1.fit (by omega) (by omega) (by omega)) hbw1 hbw2).mono ?_
                rintro e w4 ⟨rfl, hk4, hS4⟩
                have HS4 := Lib.hid hS4
                have c4 := hS4.cells.2.1
                have HRow4 := Lib.hid (HRow2.out.set hj2 hk4 (ws2[j].m + 1) (stepAll D (wA a2 j) x ws2[j].S))
                have HWs4 := Lib.hid (HWs2.out.set hj2 hk4 (m := ws2[j].m + 1) hS4 (HIV.out.1.step (wA a2 j) x) (by omega))
                have hge := HWs2.out.ge j hj2
                have hzz := HZ1.out
                have HB4 := Lib.hid (HB2.out.trans (hk4.below (B := w.heap.size + 1) (by have := HB2.out.size; omega) (by simp; omega)))
                clear hS4 hk4 hcell
                rcases Classical.em (cnt (D + 1) (stepAll D (wA a2 j) x ws2[j].S) = 0) with hz | hz
                · have hr := HC2.out
                  rw [HF0.out hz] at hr
                  simp only [Prod.mk.injEq] at hr
                  have HX := Lib.hid hr
                  rw [hz] at c4
                  clear hz hr
                  go_wp2
                  rw [Exit.noGoto_ret]
                  go_ret3
                  obtain ⟨rfl, rfl, rfl⟩ := HX.out
                  exact ⟨rfl, HW1.out.trans (HB4.out.mono (Nat.le_succ _))⟩
                · have hr := HC2.out
                  rw [HFS.out hz (ws2[j].m + 1)] at hr
                  have HX := Lib.hid hr
                  have hpos := cnt_bd (stepAll D (wA a2 j) x ws2[j].S) (D + 1)
                  have hq : decide (0 < cnt (D + 1) (stepAll D (wA a2 j) x ws2[j].S)) = true := decide_eq_true (by omega)
                  have HM4 := Lib.hid (show ∀ q (hq : q < (ws2.set j { ws2[j] with m := ws2[j].m + 1, S := stepAll D (wA a2 j) x ws2[j].S }).length), j + 1 ≤ q → (ws2.set j { ws2[j] with m := ws2[j].m + 1, S := stepAll D (wA a2 j) x ws2[j].S })[q].m ≤ i from fun q hq hjq => by
                    rw [List.getElem_set_ne (by omega)]; exact HM2.out q (by simpa using hq) (by omega))
                  clear hz hr hpos
                  go_wp2
                  go_roundw
                  case rel => exact ⟨j + 1, _, by go_num, by omega, by rw [List.length_set]; exact HL2.out, HRow4, HWs4, HB4, HM4, HX⟩
                  case measure => simp [intOf]; omega
              · obtain rfl : j = (ws.length + 1) := by omega
                have hr := HC2.out
                rw [← hl2, finC_end] at hr
                have HX := Lib.hid hr
                have hnw : ws2.length = nW (i + 1) := by have := HWL.out; rw [nW, hp]; simp only [if_true, Bool.false_eq_true, if_false]; omega
                clear hr
                go_wp2
                go_roundw
                case rel => exact ⟨i + 1, ws2, by go_num, by omega, hnw, HRow2, HWs2, HB2, HX⟩
                case measure => simp [intOf]; omega
          · have hib : ((i : Int) == 0) = false := by simp; omega
            have hnp2 : (bits .and .i64 (i : Int) ((i : Int) - 1) == 0) = true := by
              rw [pow2b, Bool.or_eq_true] at hp
              rcases hp with hp | hp
              · simp at hp; omega
              · exact hp
            have hge1 : 1 ≤ (i : Int) := by omega
            clear hi0
            have hA0 := wA_eq (lv := a2) (n := ws.length) hA1 hA2 (by omega)
            obtain ⟨hA3, hA4, hA5⟩ := hA0
            go_wp2_with fail
            rw [hA3]
            refine (begin_calls D (wA a2 ws.length) _ (by omega)).mono ?_
            rintro e wb ⟨B, L, o, cap, rfl, hb3, hB, hL, hS3⟩
            have hltw := HWs.out.lt
            have hltn := hS3.lt
            have HS3 := Lib.hid hS3
            have HOb := Lib.hid (own_move HRow.out.own (fun k hk => hb3.block k (own_lt HRow.out.own k hk)))
            have HFar := Lib.hid HRow.out.far
            have HOlt := Lib.hid (own_lt HRow.out.own)
            have HWsb := Lib.hid (HWs.out.blocks (w' := wb) (fun t ht => ⟨hb3.block _ (hltw t ht).1, hb3.block _ (hltw t ht).2.1⟩))
            have HBb := Lib.hid (HBr.out.trans (hb3.mono (show w.heap.size + 1 ≤ wr.heap.size by have h1 := HBr.out.size; have h2 := HZ1.out; omega)))
            have hszb := HBr.out.size
            have hszb2 := hb3.size
            have HLT := Lib.hid hltw
            have HZZ := HZ1.out
            clear hb3 hS3 hltw
            go_wp2_with ((with_reducible refine gate_builtin (b := .append) (xs := #[.tmp 38, .tmp 46]) rfl ?_); at_builtin; refine print_append_cells (w0 := wa) (w.heap.size + 1) rfl (.tmp 38) (.tmp 46) 107 86 (.pointer none) 1 8 rfl Try.underlying107 info_pbets rfl (by decide) (by decide) (.slice As ws.length cs) ws.length (ws.map (fun t => Value.pointer (some ⟨t.B, 0, none⟩))) [.pointer (some ⟨B, 0, none⟩)] rfl rfl rfl (fun u hu => by simp at hu; subst hu; rfl) HOb.out HBb.out (by omega) (by omega) ?_; intro v1 w1 hown1 hB1 hg1 hat1; have HO1 := Lib.hid hown1; have HB1' := Lib.hid hB1; have HG1 := Lib.hid hg1; have HAT := Lib.hid hat1; clear hB1 hg1 hat1; obtain ⟨A1, c1, rfl⟩ := own_slice hown1; clear hown1)
            have HRow3 : Hid (WRow w1 (w.heap.size + 1) (.slice A1 (ws.length + 1) c1) (ws ++ [(⟨B, L, o, cap, 0, start⟩ : Wt)])) := Lib.hid ⟨by have := HO1.out; simpa using this, fun k hk t ht => by
              rw [List.mem_append, List.mem_singleton] at ht
              rcases HAT.out with h1 | ⟨b, h1, h2⟩
              · have hk2 : (Value.slice As ws.length cs).ownBlock = some k := h1.symm.trans hk
                have := HOlt.out k hk2
                rcases ht with ht | rfl
                · exact HFar.out k hk2 t ht
                · simp only; omega
              · have hkb : k = b := by rw [hk] at h1; injection h1
                rcases ht with ht | rfl
                · have := HLT.out t ht; omega
                · simp only; omega⟩
            have HWs3 : Hid (WsAt w1 (w.heap.size + 1) D a2 i (ws ++ [(⟨B, L, o, cap, 0, start⟩ : Wt)])) := Lib.hid ((HWsb.out.add (t := ⟨B, L, o, cap, 0, start⟩) HS3.out (InvS.start D) (Nat.zero_le _) (by simp only; omega) (fun u hu => by have := HLT.out u hu; simp only; omega)).blocks (fun t ht => by
              rw [List.mem_append, List.mem_singleton] at ht
              have hne : ∀ b : Nat, (∀ k, (Value.slice As ws.length cs).ownBlock = some k → k ≠ b) → some b ≠ (Value.slice As ws.length cs).ownBlock := fun b hb he => hb b he.symm rfl
              rcases ht with ht | rfl
              · have h3 := HLT.out t ht
                exact ⟨HG1.out.block _ (by omega) (hne _ (fun k hk => (HFar.out k hk t ht).1)), HG1.out.block _ (by omega) (hne _ (fun k hk => (HFar.out k hk t ht).2))⟩
              · exact ⟨HG1.out.block _ hltn.1 (hne _ (fun k hk => by have := HOlt.out k hk; simp only; omega)), HG1.out.block _ hltn.2 (hne _ (fun k hk => by have := HOlt.out k hk; simp only; omega))⟩))
            have HB3 := HB1'
            have HR3 := Lib.hid (show finC D a2 (l0.drop (i + 1)) i [] (stepW D a2 x (Ss (ws ++ [(⟨B, L, o, cap, 0, start⟩ : Wt)])) 0) = (r1, r2, r3) by have h := HCx.out; rw [finC_start, newW, hp] at h; simpa [Ss] using h)
            clear HCx HRow HWs HBr HOb HWsb HBb HO1 HG1 HAT HLT HS3 HFar HOlt hszb hszb2
            have HC0 := Lib.hid (show finC D a2 (l0.drop (i + 1)) i ((Ss (ws ++ [(⟨B, L, o, cap, 0, start⟩ : Wt)])).take 0) (stepW D a2 x ((Ss (ws ++ [(⟨B, L, o, cap, 0, start⟩ : Wt)])).drop 0) 0) = (r1, r2, r3) from HR3.out)
            have HM0 := Lib.hid (show ∀ q (hq : q < (ws ++ [(⟨B, L, o, cap, 0, start⟩ : Wt)]).length), 0 ≤ q → (ws ++ [(⟨B, L, o, cap, 0, start⟩ : Wt)])[q].m ≤ i from fun q hq _ => (HWs3.out.inv q hq).2)
            have HWs4 := Lib.hid HWs3.out.up
            clear HR3 HWs3
            go_loopw [50] (fun v50 w2 => ∃ (j : Nat) (ws2 : List Wt), v50 = .int .i64 j ∧ j ≤ (ws.length + 1) ∧ ws2.length = (ws.length + 1) ∧ Hid (WRow w2 (w.heap.size + 1) (.slice A1 (ws.length + 1) c1) ws2) ∧ Hid (WsAt w2 (w.heap.size + 1) D a2 (i + 1) ws2) ∧ Hid (Below (w.heap.size + 1) wa w2) ∧ Hid (∀ q (hq : q < ws2.length), j ≤ q → ws2[q].m ≤ i) ∧ Hid (finC D a2 (l0.drop (i + 1)) i ((Ss ws2).take j) (stepW D a2 x ((Ss ws2).drop j) j) = (r1, r2, r3))) (fun v50 _ => (ws.length + 1) - (intOf v50).toNat)
            case atStart => exact ⟨0, ws ++ [(⟨B, L, o, cap, 0, start⟩ : Wt)], rfl, by omega, by simp, HRow3, HWs4, HB3, HM0, HC0⟩
            case round =>
              clear HRow3 HWs4 HB3 HM0 HC0
              obtain ⟨j, ws2, rfl, hj, hl2, HRow2, HWs2, HB2, HM2, HC2⟩ := hrel
              by_cases hjn : j < (ws.length + 1)
              · have hj2 : j < ws2.length := by omega
                obtain ⟨ad2, ca2, hsl, hcell⟩ := HRow2.out.cell hj2
                rw [hl2] at hsl
                injection hsl with hsl1 hsl2 hsl3
                subst hsl1
                have hbd2 : (0 : Int) ≤ (j : Int) ∧ (j : Int) < (((ws.length + 1) : Nat) : Int) := ⟨by omega, by omega⟩
                obtain ⟨_, hbw1, hbw2⟩ := wA_eq (lv := a2) (n := j) hA1 hA2 (by omega)
                have hiv := HWs2.out.inv j hj2
                have hmi := HM2.out j hj2 (Nat.le_refl _)
                obtain ⟨hf0, hfs⟩ := finC_at (D := D) (lv := a2) (x := x) (l := l0.drop (i + 1)) (i := i) hj2
                have HF0 := Lib.hid hf0
                have HFS := Lib.hid hfs
                have HIV := Lib.hid hiv
                have HL2 := Lib.hid hl2
                clear hf0 hfs hiv hl2 hsl2 hsl3
                go_wp2_with fail
                refine (betsNext_calls ws2[j].B ws2[j].L ws2[j].o ws2[j].cap D (wA a2 j) ws2[j].S x _ (HWs2.out.at_ j hj2) (by omega) (HIV.out.1.fit (by omega) (by omega) (by omega)) hbw1 hbw2).mono ?_
                rintro e w4 ⟨rfl, hk4, hS4⟩
                have HS4 := Lib.hid hS4
                have c4 := hS4.cells.2.1
                have HRow4 := Lib.hid (HRow2.out.set hj2 hk4 (ws2[j].m + 1) (stepAll D (wA a2 j) x ws2[j].S))
                have HWs4 := Lib.hid (HWs2.out.set hj2 hk4 (m := ws2[j].m + 1) hS4 (HIV.out.1.step (wA a2 j) x) (by omega))
                have hge := HWs2.out.ge j hj2
                have hzz := HZ1.out
                have HB4 := Lib.hid (HB2.out.trans (hk4.below (B := w.heap.size + 1) (by have := HB2.out.size; omega) (by simp; omega)))
                clear hS4 hk4 hcell
                rcases Classical.em (cnt (D + 1) (stepAll D (wA a2 j) x ws2[j].S) = 0) with hz | hz
                · have hr := HC2.out
                  rw [HF0.out hz] at hr
                  simp only [Prod.mk.injEq] at hr
                  have HX := Lib.hid hr
                  rw [hz] at c4
                  clear hz hr
                  go_wp2
                  rw [Exit.noGoto_ret]
                  go_ret3
                  obtain ⟨rfl, rfl, rfl⟩ := HX.out
                  exact ⟨rfl, HW1.out.trans (HB4.out.mono (Nat.le_succ _))⟩
                · have hr := HC2.out
                  rw [HFS.out hz (ws2[j].m + 1)] at hr
                  have HX := Lib.hid hr
                  have hpos := cnt_bd (stepAll D (wA a2 j) x ws2[j].S) (D + 1)
                  have hq : decide (0 < cnt (D + 1) (stepAll D (wA a2 j) x ws2[j].S)) = true := decide_eq_true (by omega)
                  have HM4 := Lib.hid (show ∀ q (hq : q < (ws2.set j { ws2[j] with m := ws2[j].m + 1, S := stepAll D (wA a2 j) x ws2[j].S }).length), j + 1 ≤ q → (ws2.set j { ws2[j] with m := ws2[j].m + 1, S := stepAll D (wA a2 j) x ws2[j].S })[q].m ≤ i from fun q hq hjq => by
                    rw [List.getElem_set_ne (by omega)]; exact HM2.out q (by simpa using hq) (by omega))
                  clear hz hr hpos
                  go_wp2
                  go_roundw
                  case rel => exact ⟨j + 1, _, by go_num, by omega, by rw [List.length_set]; exact HL2.out, HRow4, HWs4, HB4, HM4, HX⟩
                  case measure => simp [intOf]; omega
              · obtain rfl : j = (ws.length + 1) := by omega
                have hr := HC2.out
                rw [← hl2, finC_end] at hr
                have HX := Lib.hid hr
                have hnw : ws2.length = nW (i + 1) := by have := HWL.out; rw [nW, hp]; simp only [if_true, Bool.false_eq_true, if_false]; omega
                clear hr
                go_wp2
                go_roundw
                case rel => exact ⟨i + 1, ws2, by go_num, by omega, hnw, HRow2, HWs2, HB2, HX⟩
                case measure => simp [intOf]; omega
      · have hR := HR.out
        rw [List.drop_of_length_le (by omega), chL] at hR
        simp only [Prod.mk.injEq] at hR
        have HR2 := Lib.hid hR
        clear hR HR
        go_wp2_with fail
        rw [Exit.noGoto_ret]
        go_ret3
        obtain ⟨rfl, rfl, rfl⟩ := HR2.out
        exact ⟨rfl, HW1.out.trans (HBr.out.mono (Nat.le_succ _))⟩
  · have hv := HV.out
    rw [count_Change.f, if_neg he] at hv
    simp only [Option.some.injEq, Prod.mk.injEq] at hv
    obtain ⟨rfl, rfl, rfl⟩ := hv
    generalize listedV l0.length a1 (withinB a2 2 100) = r3 at *
    have hx : (r3 != 0) = true := by simpa using he
    have hx2 : (r3 == 0) = false := by simpa using he
    clear he HV
    go_enter Try.func42, Try.ntmps42
    go_wp2_with fail
    go_step3
    go_wp2_with fail
    rw [← HWA.out]
    refine HL.out.mono ?_
    rintro e w2 ⟨rfl, rfl⟩
    go_wp2
    rw [Exit.noGoto_ret]
    go_ret3
    exact ⟨rfl, HW1.out⟩
end Go.Proofs.Ytgofaifmbjallaa.Cn
