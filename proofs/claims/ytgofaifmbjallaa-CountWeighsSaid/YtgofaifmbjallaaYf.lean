import Derived.Test.YtgofaifmbjallaaYe
/-! The law CountWeighs, walked: it returns true. -/
namespace Go.Proofs.Ytgofaifmbjallaa.Pure
set_option linter.unusedVariables false
open Go.RowKit Go.Proofs.Ytgofaifmbjallaa.Pa Go.Proofs.YtgofaifmbjallaaW.PrintWords Go.Proofs.YtgofaifmbjallaaW.PrintLast Go.Proofs.YtgofaifmbjallaaW.PrintMore
open Go.Proofs.Ytgofaifmbjallaa.Cn

set_option maxRecDepth 100000 in
set_option maxHeartbeats 8000000 in
theorem weighs_walk (a0 a1 a2 a3 a4 a5 : Int) (w : World) :
    Calls Try.prog 7 #[.int .i64 a0, .int .i64 a1, .int .i64 a2, .int .i64 a3, .int .i64 a4, .int .i64 a5] w fun e w' => e = .returned (.bool true) ∧ Below w.heap.size w w' := by
  have HLV := Lib.hid (fun w => overburdenlaw07_level.calls a2 900000 _ w (law_level a2 900000))
  rcases Classical.em (a0 < 0) with c0 | c0
  · have q0 : decide (a0 < 0) = true := decide_eq_true c0
    clear c0
    go_enter Try.func7, Try.ntmps7
    go_wp2_with (first | (go_at_call 19; refine (HLV.out _).mono ?_; rintro e w' ⟨rfl, hdr⟩; obtain ⟨mdr, rfl⟩ := hdr.out; clear hdr) | (go_at_call 17; refine (known_w _).mono ?_; rintro e w' ⟨rfl, hbel⟩; have HBEL := Lib.hid hbel; clear hbel))
    go_ret
    first
    | exact ⟨rfl, HBEL.out⟩
    | exact ⟨rfl, (below_drewN _ _ _).trans HBEL.out⟩
  have q0 : decide (a0 < 0) = false := decide_eq_false c0
  rcases Classical.em (10 < a0) with c1 | c1
  · have q1 : decide (10 < a0) = true := decide_eq_true c1
    clear c1
    go_enter Try.func7, Try.ntmps7
    go_wp2_with (first | (go_at_call 19; refine (HLV.out _).mono ?_; rintro e w' ⟨rfl, hdr⟩; obtain ⟨mdr, rfl⟩ := hdr.out; clear hdr) | (go_at_call 17; refine (known_w _).mono ?_; rintro e w' ⟨rfl, hbel⟩; have HBEL := Lib.hid hbel; clear hbel))
    go_ret
    first
    | exact ⟨rfl, HBEL.out⟩
    | exact ⟨rfl, (below_drewN _ _ _).trans HBEL.out⟩
  have q1 : decide (10 < a0) = false := decide_eq_false c1
  rcases Classical.em (a1 < 2) with c2 | c2
  · have q2 : decide (a1 < 2) = true := decide_eq_true c2
    clear c2
    go_enter Try.func7, Try.ntmps7
    go_wp2_with (first | (go_at_call 19; refine (HLV.out _).mono ?_; rintro e w' ⟨rfl, hdr⟩; obtain ⟨mdr, rfl⟩ := hdr.out; clear hdr) | (go_at_call 17; refine (known_w _).mono ?_; rintro e w' ⟨rfl, hbel⟩; have HBEL := Lib.hid hbel; clear hbel))
    go_ret
    first
    | exact ⟨rfl, HBEL.out⟩
    | exact ⟨rfl, (below_drewN _ _ _).trans HBEL.out⟩
  have q2 : decide (a1 < 2) = false := decide_eq_false c2
  rcases Classical.em (40 < a1) with c3 | c3
  · have q3 : decide (40 < a1) = true := decide_eq_true c3
    clear c3
    go_enter Try.func7, Try.ntmps7
    go_wp2_with (first | (go_at_call 19; refine (HLV.out _).mono ?_; rintro e w' ⟨rfl, hdr⟩; obtain ⟨mdr, rfl⟩ := hdr.out; clear hdr) | (go_at_call 17; refine (known_w _).mono ?_; rintro e w' ⟨rfl, hbel⟩; have HBEL := Lib.hid hbel; clear hbel))
    go_ret
    first
    | exact ⟨rfl, HBEL.out⟩
    | exact ⟨rfl, (below_drewN _ _ _).trans HBEL.out⟩
  have q3 : decide (40 < a1) = false := decide_eq_false c3
  rcases hlv : withinB a2 2 900000 with _ | _
  · rw [hlv] at HLV
    clear hlv
    go_enter Try.func7, Try.ntmps7
    go_wp2_with (first | (go_at_call 19; refine (HLV.out _).mono ?_; rintro e w' ⟨rfl, hdr⟩; obtain ⟨mdr, rfl⟩ := hdr.out; clear hdr) | (go_at_call 17; refine (known_w _).mono ?_; rintro e w' ⟨rfl, hbel⟩; have HBEL := Lib.hid hbel; clear hbel))
    go_ret
    first
    | exact ⟨rfl, HBEL.out⟩
    | exact ⟨rfl, (below_drewN _ _ _).trans HBEL.out⟩
  rw [hlv] at HLV
  have hA := withinB_iff.1 hlv
  have HA := Lib.hid hA
  clear hlv hA
  rcases Classical.em (a3 < 0) with c5 | c5
  · have q5 : decide (a3 < 0) = true := decide_eq_true c5
    clear c5
    go_enter Try.func7, Try.ntmps7
    go_wp2_with (first | (go_at_call 19; refine (HLV.out _).mono ?_; rintro e w' ⟨rfl, hdr⟩; obtain ⟨mdr, rfl⟩ := hdr.out; clear hdr) | (go_at_call 17; refine (known_w _).mono ?_; rintro e w' ⟨rfl, hbel⟩; have HBEL := Lib.hid hbel; clear hbel))
    go_ret
    first
    | exact ⟨rfl, HBEL.out⟩
    | exact ⟨rfl, (below_drewN _ _ _).trans HBEL.out⟩
  have q5 : decide (a3 < 0) = false := decide_eq_false c5
  rcases Classical.em (a1 < a3) with c6 | c6
  · have q6 : decide (a1 < a3) = true := decide_eq_true c6
    clear c6
    go_enter Try.func7, Try.ntmps7
    go_wp2_with (first | (go_at_call 19; refine (HLV.out _).mono ?_; rintro e w' ⟨rfl, hdr⟩; obtain ⟨mdr, rfl⟩ := hdr.out; clear hdr) | (go_at_call 17; refine (known_w _).mono ?_; rintro e w' ⟨rfl, hbel⟩; have HBEL := Lib.hid hbel; clear hbel))
    go_ret
    first
    | exact ⟨rfl, HBEL.out⟩
    | exact ⟨rfl, (below_drewN _ _ _).trans HBEL.out⟩
  have q6 : decide (a1 < a3) = false := decide_eq_false c6
  rcases Classical.em (a4 < 0) with c7 | c7
  · have q7 : decide (a4 < 0) = true := decide_eq_true c7
    clear c7
    go_enter Try.func7, Try.ntmps7
    go_wp2_with (first | (go_at_call 19; refine (HLV.out _).mono ?_; rintro e w' ⟨rfl, hdr⟩; obtain ⟨mdr, rfl⟩ := hdr.out; clear hdr) | (go_at_call 17; refine (known_w _).mono ?_; rintro e w' ⟨rfl, hbel⟩; have HBEL := Lib.hid hbel; clear hbel))
    go_ret
    first
    | exact ⟨rfl, HBEL.out⟩
    | exact ⟨rfl, (below_drewN _ _ _).trans HBEL.out⟩
  have q7 : decide (a4 < 0) = false := decide_eq_false c7
  rcases Classical.em (a5 ≤ a4) with c8 | c8
  · have q8 : decide (a5 ≤ a4) = true := decide_eq_true c8
    clear c8
    go_enter Try.func7, Try.ntmps7
    go_wp2_with (first | (go_at_call 19; refine (HLV.out _).mono ?_; rintro e w' ⟨rfl, hdr⟩; obtain ⟨mdr, rfl⟩ := hdr.out; clear hdr) | (go_at_call 17; refine (known_w _).mono ?_; rintro e w' ⟨rfl, hbel⟩; have HBEL := Lib.hid hbel; clear hbel))
    go_ret
    first
    | exact ⟨rfl, HBEL.out⟩
    | exact ⟨rfl, (below_drewN _ _ _).trans HBEL.out⟩
  have q8 : decide (a5 ≤ a4) = false := decide_eq_false c8
  rcases Classical.em (a1 < a5) with c9 | c9
  · have q9 : decide (a1 < a5) = true := decide_eq_true c9
    clear c9
    go_enter Try.func7, Try.ntmps7
    go_wp2_with (first | (go_at_call 19; refine (HLV.out _).mono ?_; rintro e w' ⟨rfl, hdr⟩; obtain ⟨mdr, rfl⟩ := hdr.out; clear hdr) | (go_at_call 17; refine (known_w _).mono ?_; rintro e w' ⟨rfl, hbel⟩; have HBEL := Lib.hid hbel; clear hbel))
    go_ret
    first
    | exact ⟨rfl, HBEL.out⟩
    | exact ⟨rfl, (below_drewN _ _ _).trans HBEL.out⟩
  have q9 : decide (a1 < a5) = false := decide_eq_false c9
  obtain ⟨s, rfl⟩ := Int.eq_ofNat_of_zero_le (show 0 ≤ a0 by omega)
  obtain ⟨D, rfl⟩ := Int.eq_ofNat_of_zero_le (show 0 ≤ a1 by omega)
  obtain ⟨lo, rfl⟩ := Int.eq_ofNat_of_zero_le (show 0 ≤ a4 by omega)
  obtain ⟨hi, rfl⟩ := Int.eq_ofNat_of_zero_le (show 0 ≤ a5 by omega)
  have hp := pw_ten (D := D) (n := s) (by omega) (by omega) (by omega)
  have hp0 := pw_pos (D := D) (by omega) s
  have hwh : (wholeL D s 1).2 = 0 := wholeL_N (by omega) s 1 (by omega) (by omega)
  have hwh1 := wholeL_T (D := D) (by omega) s 1 (by omega) (by omega) hwh
  have hA := HA.out
  have hwv : wholeV s D = (pw D s, 0) := by
    rw [wholeV, if_neg (by omega), if_neg (by omega), Int.toNat_natCast]
    exact Prod.ext (by rw [hwh1.1]; omega) hwh
  have hall : overburdenref07_All.f s D = some (pw D s, true) := by
    rw [overburdenref07_All.f, if_pos (by omega), allRefV, if_neg (by omega), Int.toNat_natCast, if_pos hwh, hwh1.1]; simp
  have hpow : count_Power.f s D a2 a3 lo hi = some (powV s D a2 a3 lo hi 2 (2 ^ s), powV s D a2 a3 lo hi 3 (2 ^ s), powV s D a2 a3 lo hi 1 (2 ^ s), pw D s, 0) := by
    have hok : powerOk D a2 a3 lo hi = true := by
      rw [powerOk, Bool.and_eq_true, Bool.and_eq_true, Bool.and_eq_true, withinB_iff, withinB_iff, withinB_iff, withinB_iff]; omega
    rw [count_Power.f, hwv, if_pos rfl, if_pos hok]; rfl
  have t2 := pow_T (s := s) (D := D) (A := a2) (k := a3) (lo := lo) (hi := hi) (v := 2) (by omega) (by omega) (by omega) (by omega) (by omega) (2 ^ s) (Nat.le_refl _)
  have t3 := pow_T (s := s) (D := D) (A := a2) (k := a3) (lo := lo) (hi := hi) (v := 3) (by omega) (by omega) (by omega) (by omega) (by omega) (2 ^ s) (Nat.le_refl _)
  have t1 := pow_T (s := s) (D := D) (A := a2) (k := a3) (lo := lo) (hi := hi) (v := 1) (by omega) (by omega) (by omega) (by omega) (by omega) (2 ^ s) (Nat.le_refl _)
  have n2 : 0 ≤ sumN (fun b => cF D a2 a3 lo hi 2 (outL s b)) (2 ^ s) := sumN_nn _ (fun b _ => cF_nn (by omega) (by omega) _)
  have n3 : 0 ≤ sumN (fun b => cF D a2 a3 lo hi 3 (outL s b)) (2 ^ s) := sumN_nn _ (fun b _ => cF_nn (by omega) (by omega) _)
  have n1 : 0 ≤ sumN (fun b => cF D a2 a3 lo hi 1 (outL s b)) (2 ^ s) := sumN_nn _ (fun b _ => cF_nn (by omega) (by omega) _)
  have ha := pow_all (s := s) (D := D) (A := a2) (k := a3) (lo := lo) (hi := hi) (by omega) (by omega)
  rw [← t2.1] at n2
  rw [← t3.1] at n3
  rw [← t1.1] at n1
  rw [← t2.1, ← t3.1, ← t1.1] at ha
  have HALL := Lib.hid (fun w => overburdenref07_All.calls s D _ _ w hall)
  have HPOW := Lib.hid (fun w => count_Power.calls s D a2 a3 lo hi _ _ _ _ _ w hpow)
  have HST := Lib.hid (fun (b : Nat) (hb : b < 2 ^ s) => (fun v => pow_step (s := s) (D := D) (A := a2) (k := a3) (lo := lo) (hi := hi) (v := v) (by omega) (by omega) (by omega) (by omega) (by omega) hb))
  have H20 := Lib.hid (show powV s D a2 a3 lo hi 2 0 = 0 from rfl)
  have H30 := Lib.hid (show powV s D a2 a3 lo hi 3 0 = 0 from rfl)
  clear hall hpow hwv hwh hwh1 t1 t2 t3 hA
  obtain ⟨N, hN⟩ : ∃ N : Nat, 2 ^ s = N := ⟨_, rfl⟩
  have hN2 : N ≤ 1024 := by rw [← hN]; exact Nat.pow_le_pow_right (n := 2) (j := 10) (by omega) (by omega)
  have hpw : wrap64 (2 ^ s) = (N : Int) := by
    rw [← hN, show ((2 : Int) ^ s) = ((2 ^ s : Nat) : Int) by simp, hN]; unfold wrap64; omega
  rw [hN] at HST n2 n3 n1 ha HPOW
  generalize hf2 : powV s D a2 a3 lo hi 2 = f2 at *
  generalize hf3 : powV s D a2 a3 lo hi 3 = f3 at *
  generalize hf1 : powV s D a2 a3 lo hi 1 = f1 at *
  have z2 : decide (f2 N < 0) = false := decide_eq_false (by omega)
  have z3 : decide (f3 N < 0) = false := decide_eq_false (by omega)
  have z1 : decide (f1 N < 0) = false := decide_eq_false (by omega)
  have y2 : decide (pw D s < f2 N) = false := decide_eq_false (by omega)
  have y3 : decide (pw D s < f3 N) = false := decide_eq_false (by omega)
  have y23 : decide (pw D s < f2 N + f3 N) = false := decide_eq_false (by omega)
  have x1 : (f1 N != pw D s - f2 N - f3 N) = false := by simp; omega
  generalize pw D s = all at *
  go_enter Try.func7, Try.ntmps7
  go_wp2_with (first
    | (go_at_call 19; refine (HLV.out _).mono ?_; rintro e w' ⟨rfl, hdr⟩; obtain ⟨mdr, rfl⟩ := hdr.out; clear hdr)
    | (go_at_call 26; refine (HALL.out _).mono ?_; rintro e wa ⟨rfl, hba⟩; have HBA := Lib.hid hba; clear hba)
    | (go_at_call 28; refine (HPOW.out _).mono ?_; rintro e wb ⟨rfl, hbb⟩; have HBB := Lib.hid hbb; clear hbb))
  have HW0 := Lib.hid (show Below w.heap.size w wb from ((below_drewN w.heap.size w mdr).trans (HBA.out.mono (Nat.le_refl _))).trans (HBB.out.mono HBA.out.size))
  have Hblk := Lib.hid (Blk.new wb #[.int .i64 (f2 N), .int .i64 (f3 N), .int .i64 (f1 N), .int .i64 all] 49)
  have HW1 := Lib.hid ((Below.refl (wb.heap.size + 1) (wb.alloc (.cells #[.int .i64 (f2 N), .int .i64 (f3 N), .int .i64 (f1 N), .int .i64 all] 49 (0, 0)))))
  have HW2 := Lib.hid (HW0.out.alloc HW0.out.size (.cells #[.int .i64 (f2 N), .int .i64 (f3 N), .int .i64 (f1 N), .int .i64 all] 49 (0, 0)))
  have hsz : (wb.alloc (.cells #[.int .i64 (f2 N), .int .i64 (f3 N), .int .i64 (f1 N), .int .i64 all] 49 (0, 0))).heap.size = wb.heap.size + 1 := by simp
  have HSZ := Lib.hid hsz
  clear hsz HBA HBB
  generalize wb.alloc (.cells #[.int .i64 (f2 N), .int .i64 (f3 N), .int .i64 (f1 N), .int .i64 all] 49 (0, 0)) = wc at *
  go_loopw [17, 18, 19] (fun v17 v18 v19 wr => ∃ b : Nat, v17 = .int .i64 (f2 b) ∧ v18 = .int .i64 (f3 b) ∧ v19 = .int .i64 b ∧ b ≤ N ∧ Hid (Below wc.heap.size wc wr)) (fun _ _ v19 _ => N - (intOf v19).toNat)
  case atStart => exact ⟨0, by rw [H20.out], by rw [H30.out], rfl, by omega, Lib.hid (Below.refl _ _)⟩
  case round =>
    obtain ⟨b, rfl, rfl, rfl, hbN, HBR⟩ := hrel
    by_cases hlt : b < N
    · have hst := HST.out b hlt
      have hst2 := hst 2
      have hst3 := hst 3
      rw [hf2] at hst2
      rw [hf3] at hst3
      have HOUT := Lib.hid (ref_outcome s b 100 (by omega) (by omega))
      have HWT := Lib.hid (ref_weight (outL s b) D a3 100 (by omega) (by omega) (by omega) (by omega) (by rw [outL_len]; omega) (by rw [outL_len]; omega))
      have hdec : count_Decide.f (outL s b) D a2 lo hi = some ((decideS (runS D a2 (outL s b) Cn.start) D lo hi).1, (decideS (runS D a2 (outL s b) Cn.start) D lo hi).2, 0) := by
        have hfine : (withinB a2 2 900000 && withinB (hi : Int) 1 D && withinB (lo : Int) 0 ((hi : Int) - 1)) = true := by
          have := HA.out
          rw [Bool.and_eq_true, Bool.and_eq_true, withinB_iff, withinB_iff, withinB_iff]; omega
        have hlist : listedV (outL s b).length D (withinB a2 2 900000 && withinB (hi : Int) 1 D && withinB (lo : Int) 0 ((hi : Int) - 1)) = 0 := by
          unfold listedV
          rw [if_neg (by omega), if_neg (by rw [outL_len]; omega), hfine, if_neg (by simp)]
        rw [count_Decide.f, if_pos hlist]; rfl
      have hv := decideS_val (runS D a2 (outL s b) Cn.start) D lo hi
      generalize decideS (runS D a2 (outL s b) Cn.start) D lo hi = dd at *
      obtain ⟨dv, dn⟩ := dd
      have HDEC := Lib.hid hdec
      simp only at hv hst2 hst3
      clear hdec hst
      generalize wV D a3 (outL s b) 1 = wt at *
      rcases hv with rfl | rfl | rfl
      · rw [if_neg (by decide)] at hst2 hst3
        go_wp2_with (first
          | (go_at_call 20; refine (overburdenref07_Outcome.calls 100 s b _ _ HOUT.out).mono ?_; rintro e w2 ⟨v0, rfl, hR, hB2⟩; have HB2 := Lib.hid hB2; obtain ⟨A2, c2, rfl, hle2, hC2⟩ := Kd.R_reads hR; have HC2 := Lib.hid hC2; have HLE2 := Lib.hid hle2; clear hR hB2 hC2 hle2)
          | (go_at_call 24; refine (count_Decide.calls A2 c2 _ D a2 lo hi _ _ _ _ HC2.out HLE2.out HDEC.out).mono ?_; rintro e w3 ⟨rfl, hB3⟩; have HB3 := Lib.hid hB3; have HC3 := Lib.hid (Kd.C_below HC2.out hB3); clear hB3)
          | (go_at_call 23; refine (overburdenref07_Weight.calls 100 A2 c2 _ D a3 _ _ HC3.out HLE2.out HWT.out).mono ?_; rintro e w4 ⟨rfl, hdr⟩; obtain ⟨mw, rfl⟩ := hdr.out; clear hdr))
        go_roundw
        case rel => exact ⟨b + 1, by rw [hst2], by rw [hst3], by go_num, by omega, Lib.hid (by
          have h1 := HBR.out.trans (HB2.out.mono HBR.out.size)
          have h2 := h1.trans (HB3.out.mono h1.size)
          first | exact h2 | exact h2.trans (below_drewN _ _ _))⟩
        case measure => simp [intOf]; omega
      · rw [if_pos rfl] at hst2
        rw [if_neg (by decide)] at hst3
        go_wp2_with (first
          | (go_at_call 20; refine (overburdenref07_Outcome.calls 100 s b _ _ HOUT.out).mono ?_; rintro e w2 ⟨v0, rfl, hR, hB2⟩; have HB2 := Lib.hid hB2; obtain ⟨A2, c2, rfl, hle2, hC2⟩ := Kd.R_reads hR; have HC2 := Lib.hid hC2; have HLE2 := Lib.hid hle2; clear hR hB2 hC2 hle2)
          | (go_at_call 24; refine (count_Decide.calls A2 c2 _ D a2 lo hi _ _ _ _ HC2.out HLE2.out HDEC.out).mono ?_; rintro e w3 ⟨rfl, hB3⟩; have HB3 := Lib.hid hB3; have HC3 := Lib.hid (Kd.C_below HC2.out hB3); clear hB3)
          | (go_at_call 23; refine (overburdenref07_Weight.calls 100 A2 c2 _ D a3 _ _ HC3.out HLE2.out HWT.out).mono ?_; rintro e w4 ⟨rfl, hdr⟩; obtain ⟨mw, rfl⟩ := hdr.out; clear hdr))
        go_roundw
        case rel => exact ⟨b + 1, by rw [hst2], by rw [hst3], by go_num, by omega, Lib.hid (by
          have h1 := HBR.out.trans (HB2.out.mono HBR.out.size)
          have h2 := h1.trans (HB3.out.mono h1.size)
          first | exact h2 | exact h2.trans (below_drewN _ _ _))⟩
        case measure => simp [intOf]; omega
      · rw [if_neg (by decide)] at hst2
        rw [if_pos rfl] at hst3
        go_wp2_with (first
          | (go_at_call 20; refine (overburdenref07_Outcome.calls 100 s b _ _ HOUT.out).mono ?_; rintro e w2 ⟨v0, rfl, hR, hB2⟩; have HB2 := Lib.hid hB2; obtain ⟨A2, c2, rfl, hle2, hC2⟩ := Kd.R_reads hR; have HC2 := Lib.hid hC2; have HLE2 := Lib.hid hle2; clear hR hB2 hC2 hle2)
          | (go_at_call 24; refine (count_Decide.calls A2 c2 _ D a2 lo hi _ _ _ _ HC2.out HLE2.out HDEC.out).mono ?_; rintro e w3 ⟨rfl, hB3⟩; have HB3 := Lib.hid hB3; have HC3 := Lib.hid (Kd.C_below HC2.out hB3); clear hB3)
          | (go_at_call 23; refine (overburdenref07_Weight.calls 100 A2 c2 _ D a3 _ _ HC3.out HLE2.out HWT.out).mono ?_; rintro e w4 ⟨rfl, hdr⟩; obtain ⟨mw, rfl⟩ := hdr.out; clear hdr))
        go_roundw
        case rel => exact ⟨b + 1, by rw [hst2], by rw [hst3], by go_num, by omega, Lib.hid (by
          have h1 := HBR.out.trans (HB2.out.mono HBR.out.size)
          have h2 := h1.trans (HB3.out.mono h1.size)
          first | exact h2 | exact h2.trans (below_drewN _ _ _))⟩
        case measure => simp [intOf]; omega
    · obtain rfl : b = N := by omega
      have hblk := Hblk.out.below HBR.out (by have := HSZ.out; omega)
      have d0 := hblk.cell 0
      have d1 := hblk.cell 1
      simp at d0 d1
      clear hblk
      go_wp2_with (go_at_call 17; refine (known_w _).mono ?_; rintro e w' ⟨rfl, hbel⟩; have HBEL := Lib.hid hbel; clear hbel)
      go_ret
      exact ⟨rfl, (HW2.out.trans (HBR.out.mono HW2.out.size)).trans (HBEL.out.mono (HW2.out.trans (HBR.out.mono HW2.out.size)).size)⟩
end Go.Proofs.Ytgofaifmbjallaa.Pure
