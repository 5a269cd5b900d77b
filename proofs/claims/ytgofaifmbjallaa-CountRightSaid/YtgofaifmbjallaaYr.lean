import Derived.Test.YtgofaifmbjallaaRi
/-! The law CountRight, walked: it returns true. -/
namespace Go.Proofs.Ytgofaifmbjallaa.Pure
set_option linter.unusedVariables false
open Go.RowKit Go.Proofs.Ytgofaifmbjallaa.Pa Go.Proofs.YtgofaifmbjallaaW.PrintWords Go.Proofs.YtgofaifmbjallaaW.PrintLast Go.Proofs.YtgofaifmbjallaaW.PrintMore
open Go.Proofs.Ytgofaifmbjallaa.Cn

theorem right_bound {D : Int} {k : Nat} (hk : (k : Int) ≤ D) (t : List Bool → Bool) (n : Nat) : ∀ b, b ≤ 2 ^ n → 0 ≤ sumN (fun b => wOf D k t (outL n b)) b ∧ sumN (fun b => wOf D k t (outL n b)) b ≤ pw D n := by
  intro b hb
  have h0 : ∀ l, 0 ≤ wOf D k t l := by
    intro l; unfold wOf; split
    · exact wT_nn (by omega) hk l
    · omega
  refine ⟨sumN_nn b (fun b _ => h0 _), ?_⟩
  refine Int.le_trans (sumN_up (fun b => h0 _) (2 ^ n) hb) ?_
  rw [sumN_L n (wOf D k t), ← sumL_w D k n]
  apply sumL_le
  intro l _
  unfold wOf; split
  · exact Int.le_refl _
  · exact wT_nn (by omega) hk l
theorem aL_1 {x : List Bool} {i m : Nat} (h : x.length = i ∧ i ≤ 9 ∧ m ≤ 10) : (([] : List Bool).length + x.length) * 1 ≤ 140737488355328 := by
  simp only [List.length_nil]; omega
theorem aL_2 {x : List Bool} {i m : Nat} (h : x.length = i ∧ i ≤ 9 ∧ m ≤ 10) : (x.length + m) * 1 ≤ 140737488355328 := by
  omega
theorem below_3 {wd wr w2 w3 : World} (h1 : Hid (Below wd.heap.size wd wr)) (h2 : Hid (Below wr.heap.size wr w2)) (h3 : Below w2.heap.size w2 w3) : Below wd.heap.size wd w3 :=
  (h1.out.trans (h2.out.mono h1.out.size)).trans (h3.mono (h1.out.trans (h2.out.mono h1.out.size)).size)
set_option maxRecDepth 100000 in
set_option maxHeartbeats 8000000 in
theorem right_walk (a0 a1 a2 a3 a4 a5 : Int) (A6 : Option Addr) (c6 : Nat) (l6 : List Bool) (w : World) (hr6 : Kd.C Kd.bool w A6 l6.length l6) (hc6 : l6.length ≤ c6) :
    Calls Try.prog 5 #[.int .i64 a0, .int .i64 a1, .int .i64 a2, .int .i64 a3, .int .i64 a4, .int .i64 a5, .slice A6 l6.length c6] w fun e w' => e = .returned (.bool true) ∧ Below w.heap.size w w' := by
  have HLV := Lib.hid (fun w => overburdenlaw07_level.calls a2 900000 _ w (law_level a2 900000))
  have HC6 := Lib.hid hr6
  have hl6 := Kd.C_max hr6
  clear hr6
  rcases Classical.em (a0 < 0) with c0 | c0
  · have q0 : decide (a0 < 0) = true := decide_eq_true c0
    clear c0
    go_enter Try.func5, Try.ntmps5
    go_wp2_with (first | (go_at_call 19; refine (HLV.out _).mono ?_; rintro e w' ⟨rfl, hdr⟩; obtain ⟨mdr, rfl⟩ := hdr.out; clear hdr) | (go_at_call 17; refine (known_w _).mono ?_; rintro e w' ⟨rfl, hbel⟩; have HBEL := Lib.hid hbel; clear hbel))
    go_ret
    first
    | exact ⟨rfl, HBEL.out⟩
    | exact ⟨rfl, (below_drewN _ _ _).trans HBEL.out⟩
  have q0 : decide (a0 < 0) = false := decide_eq_false c0
  rcases Classical.em (9 < a0) with c1 | c1
  · have q1 : decide (9 < a0) = true := decide_eq_true c1
    clear c1
    go_enter Try.func5, Try.ntmps5
    go_wp2_with (first | (go_at_call 19; refine (HLV.out _).mono ?_; rintro e w' ⟨rfl, hdr⟩; obtain ⟨mdr, rfl⟩ := hdr.out; clear hdr) | (go_at_call 17; refine (known_w _).mono ?_; rintro e w' ⟨rfl, hbel⟩; have HBEL := Lib.hid hbel; clear hbel))
    go_ret
    first
    | exact ⟨rfl, HBEL.out⟩
    | exact ⟨rfl, (below_drewN _ _ _).trans HBEL.out⟩
  have q1 : decide (9 < a0) = false := decide_eq_false c1
  rcases Classical.em (a1 < 2) with c2 | c2
  · have q2 : decide (a1 < 2) = true := decide_eq_true c2
    clear c2
    go_enter Try.func5, Try.ntmps5
    go_wp2_with (first | (go_at_call 19; refine (HLV.out _).mono ?_; rintro e w' ⟨rfl, hdr⟩; obtain ⟨mdr, rfl⟩ := hdr.out; clear hdr) | (go_at_call 17; refine (known_w _).mono ?_; rintro e w' ⟨rfl, hbel⟩; have HBEL := Lib.hid hbel; clear hbel))
    go_ret
    first
    | exact ⟨rfl, HBEL.out⟩
    | exact ⟨rfl, (below_drewN _ _ _).trans HBEL.out⟩
  have q2 : decide (a1 < 2) = false := decide_eq_false c2
  rcases Classical.em (40 < a1) with c3 | c3
  · have q3 : decide (40 < a1) = true := decide_eq_true c3
    clear c3
    go_enter Try.func5, Try.ntmps5
    go_wp2_with (first | (go_at_call 19; refine (HLV.out _).mono ?_; rintro e w' ⟨rfl, hdr⟩; obtain ⟨mdr, rfl⟩ := hdr.out; clear hdr) | (go_at_call 17; refine (known_w _).mono ?_; rintro e w' ⟨rfl, hbel⟩; have HBEL := Lib.hid hbel; clear hbel))
    go_ret
    first
    | exact ⟨rfl, HBEL.out⟩
    | exact ⟨rfl, (below_drewN _ _ _).trans HBEL.out⟩
  have q3 : decide (40 < a1) = false := decide_eq_false c3
  rcases hlv : withinB a2 2 900000 with _ | _
  · rw [hlv] at HLV
    clear hlv
    go_enter Try.func5, Try.ntmps5
    go_wp2_with (first | (go_at_call 19; refine (HLV.out _).mono ?_; rintro e w' ⟨rfl, hdr⟩; obtain ⟨mdr, rfl⟩ := hdr.out; clear hdr) | (go_at_call 17; refine (known_w _).mono ?_; rintro e w' ⟨rfl, hbel⟩; have HBEL := Lib.hid hbel; clear hbel))
    go_ret
    first
    | exact ⟨rfl, HBEL.out⟩
    | exact ⟨rfl, (below_drewN _ _ _).trans HBEL.out⟩
  rw [hlv] at HLV
  have hA := withinB_iff.1 hlv
  have HA := Lib.hid hA
  clear hlv hA
  rcases Classical.em (a3 < 0) with c5 | c5
  · have q5 : decide (a3 < 0) = true := decide_eq_true c5
    clear c5
    go_enter Try.func5, Try.ntmps5
    go_wp2_with (first | (go_at_call 19; refine (HLV.out _).mono ?_; rintro e w' ⟨rfl, hdr⟩; obtain ⟨mdr, rfl⟩ := hdr.out; clear hdr) | (go_at_call 17; refine (known_w _).mono ?_; rintro e w' ⟨rfl, hbel⟩; have HBEL := Lib.hid hbel; clear hbel))
    go_ret
    first
    | exact ⟨rfl, HBEL.out⟩
    | exact ⟨rfl, (below_drewN _ _ _).trans HBEL.out⟩
  have q5 : decide (a3 < 0) = false := decide_eq_false c5
  rcases Classical.em (a1 < a3) with c6 | c6
  · have q6 : decide (a1 < a3) = true := decide_eq_true c6
    clear c6
    go_enter Try.func5, Try.ntmps5
    go_wp2_with (first | (go_at_call 19; refine (HLV.out _).mono ?_; rintro e w' ⟨rfl, hdr⟩; obtain ⟨mdr, rfl⟩ := hdr.out; clear hdr) | (go_at_call 17; refine (known_w _).mono ?_; rintro e w' ⟨rfl, hbel⟩; have HBEL := Lib.hid hbel; clear hbel))
    go_ret
    first
    | exact ⟨rfl, HBEL.out⟩
    | exact ⟨rfl, (below_drewN _ _ _).trans HBEL.out⟩
  have q6 : decide (a1 < a3) = false := decide_eq_false c6
  rcases Classical.em (a4 < 0) with c7 | c7
  · have q7 : decide (a4 < 0) = true := decide_eq_true c7
    clear c7
    go_enter Try.func5, Try.ntmps5
    go_wp2_with (first | (go_at_call 19; refine (HLV.out _).mono ?_; rintro e w' ⟨rfl, hdr⟩; obtain ⟨mdr, rfl⟩ := hdr.out; clear hdr) | (go_at_call 17; refine (known_w _).mono ?_; rintro e w' ⟨rfl, hbel⟩; have HBEL := Lib.hid hbel; clear hbel))
    go_ret
    first
    | exact ⟨rfl, HBEL.out⟩
    | exact ⟨rfl, (below_drewN _ _ _).trans HBEL.out⟩
  have q7 : decide (a4 < 0) = false := decide_eq_false c7
  rcases Classical.em (a5 ≤ a4) with c8 | c8
  · have q8 : decide (a5 ≤ a4) = true := decide_eq_true c8
    clear c8
    go_enter Try.func5, Try.ntmps5
    go_wp2_with (first | (go_at_call 19; refine (HLV.out _).mono ?_; rintro e w' ⟨rfl, hdr⟩; obtain ⟨mdr, rfl⟩ := hdr.out; clear hdr) | (go_at_call 17; refine (known_w _).mono ?_; rintro e w' ⟨rfl, hbel⟩; have HBEL := Lib.hid hbel; clear hbel))
    go_ret
    first
    | exact ⟨rfl, HBEL.out⟩
    | exact ⟨rfl, (below_drewN _ _ _).trans HBEL.out⟩
  have q8 : decide (a5 ≤ a4) = false := decide_eq_false c8
  rcases Classical.em (a1 < a5) with c9 | c9
  · have q9 : decide (a1 < a5) = true := decide_eq_true c9
    clear c9
    go_enter Try.func5, Try.ntmps5
    go_wp2_with (first | (go_at_call 19; refine (HLV.out _).mono ?_; rintro e w' ⟨rfl, hdr⟩; obtain ⟨mdr, rfl⟩ := hdr.out; clear hdr) | (go_at_call 17; refine (known_w _).mono ?_; rintro e w' ⟨rfl, hbel⟩; have HBEL := Lib.hid hbel; clear hbel))
    go_ret
    first
    | exact ⟨rfl, HBEL.out⟩
    | exact ⟨rfl, (below_drewN _ _ _).trans HBEL.out⟩
  have q9 : decide (a1 < a5) = false := decide_eq_false c9
  rcases Classical.em ((10 : Int) < (l6.length : Int)) with c10 | c10
  · have q10 : decide ((10 : Int) < (l6.length : Int)) = true := decide_eq_true c10
    clear c10
    go_enter Try.func5, Try.ntmps5
    go_wp2_with (first | (go_at_call 19; refine (HLV.out _).mono ?_; rintro e w' ⟨rfl, hdr⟩; obtain ⟨mdr, rfl⟩ := hdr.out; clear hdr) | (go_at_call 17; refine (known_w _).mono ?_; rintro e w' ⟨rfl, hbel⟩; have HBEL := Lib.hid hbel; clear hbel))
    go_ret
    first
    | exact ⟨rfl, HBEL.out⟩
    | exact ⟨rfl, (below_drewN _ _ _).trans HBEL.out⟩
  have q10 : decide ((10 : Int) < (l6.length : Int)) = false := decide_eq_false c10
  obtain ⟨s, rfl⟩ := Int.eq_ofNat_of_zero_le (show 0 ≤ a0 by omega)
  obtain ⟨D, rfl⟩ := Int.eq_ofNat_of_zero_le (show 0 ≤ a1 by omega)
  obtain ⟨lo, rfl⟩ := Int.eq_ofNat_of_zero_le (show 0 ≤ a4 by omega)
  obtain ⟨hi, rfl⟩ := Int.eq_ofNat_of_zero_le (show 0 ≤ a5 by omega)
  obtain ⟨r, rfl⟩ := Int.eq_ofNat_of_zero_le (show 0 ≤ a3 by omega)
  have hA := HA.out
  have hps : ∀ i, i ≤ s → 1 ≤ pw (D : Int) i ∧ pw (D : Int) i ≤ 262144000000000 := fun i hi => ⟨pw_pos (by omega) i, pw_small (by omega) (by omega) (by omega)⟩
  have hbd := right_bound (D := D) (k := r) (by omega) (rightT D lo hi a2 r) s
  have hsure := sure (D := D) (A := a2) (k := r) (by omega) (by omega) (by omega) s (Cn.start r) (run_start D r) (rightT D lo hi a2 r) (fun l h => right_out (by omega) l h) (worth_start a2 r)
  rw [← sumN_L s (wOf D r (rightT D lo hi a2 r))] at hsure
  obtain ⟨N, hN⟩ : ∃ N : Nat, 2 ^ s = N := ⟨_, rfl⟩
  have hN2 : N ≤ 512 := by rw [← hN]; exact Nat.pow_le_pow_right (n := 2) (j := 9) (by omega) (by omega)
  have hpw : wrap64 (2 ^ s) = (N : Int) := by
    rw [← hN, show ((2 : Int) ^ s) = ((2 ^ s : Nat) : Int) by simp, hN]; unfold wrap64; omega
  rw [hN] at hbd hsure
  obtain ⟨G, hG⟩ : ∃ G, G = sumN (fun b => wOf D r (rightT D lo hi a2 r) (outL s b)) := ⟨_, rfl⟩
  rw [← hG] at hbd hsure
  have HGS := Lib.hid (show ∀ b, G (b + 1) = G b + wOf D r (rightT D lo hi a2 r) (outL s b) from fun b => by rw [hG]; rfl)
  have HG0 := Lib.hid (show G 0 = 0 by rw [hG]; rfl)
  have hdv := Int.le_ediv_of_mul_le (show 0 < a2 by omega) (show G N * a2 ≤ pw D s by rw [Int.mul_comm]; exact hsure)
  have xq : decide (G N ≤ pw (D : Int) s / a2) = true := decide_eq_true hdv
  have hall := hps s (Nat.le_refl _)
  have HBD := Lib.hid hbd
  have HPS := Lib.hid hps
  clear hsure hdv hbd hps hG
  go_enter Try.func5, Try.ntmps5
  go_wp2_with (go_at_call 19; refine (HLV.out _).mono ?_; rintro e w' ⟨rfl, hdr⟩; obtain ⟨mdr, rfl⟩ := hdr.out; clear hdr)
  go_loop [15, 16] (fun v15 v16 => ∃ i : Nat, v15 = .int .i64 (pw D i) ∧ v16 = .int .i64 i ∧ i ≤ s) (fun _ v16 => s - (intOf v16).toNat)
  case atStart => exact ⟨0, rfl, rfl, by omega⟩
  case round =>
    obtain ⟨i, rfl, rfl, his⟩ := hrel
    by_cases hlt : i < s
    · have h1 := HPS.out (i + 1) (by omega)
      have e1 : pw (D : Int) i * D = pw D (i + 1) := Int.mul_comm _ _
      have h2 : 0 ≤ pw (D : Int) i * D ∧ pw (D : Int) i * D ≤ 262144000000000 := by rw [e1]; omega
      clear h1
      go_wp2
      go_round
      case rel => exact ⟨i + 1, by rw [← e1], by go_num, by omega⟩
      case measure => simp [intOf]; omega
    · obtain rfl : i = s := by omega
      go_wp2
      have HWd := Lib.hid (below_drewN w.heap.size w mdr)
      generalize w.drewN mdr = wd at *
      go_loopw [17, 18] (fun v17 v18 wr => ∃ b : Nat, v17 = .int .i64 (G b) ∧ v18 = .int .i64 b ∧ b ≤ N ∧ Hid (Below wd.heap.size wd wr)) (fun _ v18 _ => N - (intOf v18).toNat)
      case atStart => exact ⟨0, by rw [HG0.out], rfl, by omega, Lib.hid (Below.refl _ _)⟩
      case round =>
        obtain ⟨b, rfl, rfl, hbN, HBR⟩ := hrel
        by_cases hlt2 : b < N
        · have hgs := HGS.out b
          have hb1 := HBD.out b (by omega)
          have hb2 := HBD.out (b + 1) (by omega)
          have HOUT := Lib.hid (ref_outcome i b 100 (by omega) (by omega))
          have HWT := Lib.hid (ref_weight (outL i b) D r 100 (by omega) (by omega) (by omega) (by omega) (by rw [outL_len]; omega) (by rw [outL_len]; omega))
          have hdf : ∀ l : List Bool, l.length ≤ 4000 → count_Decide.f l D a2 lo hi = some ((decideS (runS D a2 l Cn.start) D lo hi).1, (decideS (runS D a2 l Cn.start) D lo hi).2, 0) := by
            intro l hl
            have hfine : (withinB a2 2 900000 && withinB (hi : Int) 1 D && withinB (lo : Int) 0 ((hi : Int) - 1)) = true := by
              have := HA.out
              rw [Bool.and_eq_true, Bool.and_eq_true, withinB_iff, withinB_iff, withinB_iff]; omega
            have hlist : listedV l.length D (withinB a2 2 900000 && withinB (hi : Int) 1 D && withinB (lo : Int) 0 ((hi : Int) - 1)) = 0 := by
              unfold listedV
              rw [if_neg (by omega), if_neg (by omega), hfine, if_neg (by simp)]
            rw [count_Decide.f, if_pos hlist]; rfl
          have hdec := hdf (outL i b) (by rw [outL_len]; omega)
          have hde2 := hdf (outL i b ++ l6) (by rw [List.length_append, outL_len]; omega)
          have HLL := Lib.hid (show (outL i b).length = i ∧ i ≤ 9 ∧ l6.length ≤ 10 from ⟨outL_len .., by omega, by omega⟩)
          have hst := decide_stays (D := D) (lo := lo) (hi := hi) (A := a2) (outL i b) l6 (by omega)
          have hdb := decide_bd (D := D) (lo := lo) (hi := hi) (A := a2) (outL i b) (by omega)
          have hv := decideS_val (runS D a2 (outL i b) Cn.start) D lo hi
          rw [outL_len] at hdb
          have hwe : wT D r (outL i b) = wV D r (outL i b) 1 := by
            rw [wV_T (D := (D : Int)) (k := r) (by omega) (by omega) (by omega) (by omega) (outL i b) 1 (by omega) (by rw [outL_len]; omega), Int.one_mul]
          unfold wOf rightT at hgs
          rw [hwe] at hgs
          clear hdf hwe
          generalize decideS (runS D a2 (outL i b) Cn.start) D lo hi = dd at *
          generalize decideS (runS D a2 (outL i b ++ l6) Cn.start) D lo hi = de at *
          obtain ⟨dv, dn⟩ := dd
          simp only at hv hgs hdb hst hdec
          have HDEC := Lib.hid hdec
          clear hdec
          generalize wV D r (outL i b) 1 = wt at *
          rcases Classical.em (hi ≤ r) with g1 | g1
          · have m1 : decide ((hi : Int) ≤ (r : Int)) = true := decide_eq_true (by omega)
            have m2 : decide ((r : Int) ≤ (lo : Int)) = false := decide_eq_false (by omega)
            have g2 : ¬ r ≤ lo := by omega
            rw [decide_eq_true g1, decide_eq_false g2] at hgs
            rcases hv with rfl | rfl | rfl
            · simp at hgs
              go_wp2_with (first
                | (go_at_call 20; refine (overburdenref07_Outcome.calls 100 i b _ _ HOUT.out).mono ?_; rintro e w2 ⟨v0, rfl, hR, hB2⟩; have HB2 := Lib.hid hB2; obtain ⟨A2, c2, rfl, hle2, hC2⟩ := Kd.R_reads hR; have HC2 := Lib.hid hC2; have HLE2 := Lib.hid hle2; clear hR hB2 hC2 hle2)
                | (go_at_call 24; refine (count_Decide.calls A2 c2 _ D a2 lo hi _ _ _ _ HC2.out HLE2.out HDEC.out).mono ?_; rintro e w3 ⟨rfl, hB3⟩; have HC3 := Lib.hid (Kd.C_below HC2.out hB3); have HB3 := Lib.hid (below_3 HBR HB2 hB3); clear hB3 HDEC)
                | (go_at_call 23; refine (overburdenref07_Weight.calls 100 A2 c2 _ D r _ _ HC3.out HLE2.out HWT.out).mono ?_; rintro e w4 ⟨rfl, hdr⟩; obtain ⟨mw, rfl⟩ := hdr.out; clear hdr))
              all_goals exact ⟨⟨b + 1, by rw [hgs], by go_num, by omega, Lib.hid (by first | exact HB3.out | exact HB3.out.trans (below_drewN _ _ _))⟩, by simp [intOf]; omega⟩
            · simp at hgs
              have hst2 := hst (by decide)
              rw [hst2] at hde2
              simp only at hde2
              obtain ⟨L, hL⟩ : ∃ L, L = outL i b ++ l6 := ⟨_, rfl⟩
              rw [← hL] at hde2
              have HL := Lib.hid hL
              clear hL
              have HDE2 := Lib.hid hde2
              clear hst hst2 hde2
              rcases Classical.em ((b : Int) % 37 = 0) with g37 | g37
              · have m37 : ((b : Int) % 37 != 0) = false := by simp [g37]
                go_wp2_with (first
                  | (go_at_call 24; refine (count_Decide.calls A4 c4 L D a2 lo hi _ _ _ _ HC4.out HLE4.out HDE2.out).mono ?_; rintro e w7 ⟨rfl, hB7⟩; have HB7 := Lib.hid (HB6.out.trans (hB7.mono HB6.out.size)); clear hB7)
                  | (go_at_call 20; refine (overburdenref07_Outcome.calls 100 i b _ _ HOUT.out).mono ?_; rintro e w2 ⟨v0, rfl, hR, hB2⟩; have HB2 := Lib.hid hB2; obtain ⟨A2, c2, rfl, hle2, hC2⟩ := Kd.R_reads hR; have HC2 := Lib.hid hC2; have HLE2 := Lib.hid hle2; clear hR hB2 hC2 hle2)
                  | (go_at_call 24; refine (count_Decide.calls A2 c2 _ D a2 lo hi _ _ _ _ HC2.out HLE2.out HDEC.out).mono ?_; rintro e w3 ⟨rfl, hB3⟩; have HC3 := Lib.hid (Kd.C_below HC2.out hB3); have HB3 := Lib.hid (below_3 HBR HB2 hB3); clear hB3 HDEC)
                  | (go_at_call 23; refine (overburdenref07_Weight.calls 100 A2 c2 _ D r _ _ HC3.out HLE2.out HWT.out).mono ?_; rintro e w4 ⟨rfl, hdr⟩; obtain ⟨mw, rfl⟩ := hdr.out; clear hdr)
                  | ((with_reducible refine gate_builtin (b := .append) (xs := #[.const (.slice none 0 0), .tmp 142]) rfl ?_); at_builtin; refine Kd.R_append_rows Kd.bool (w0 := wd) wd.heap.size rfl (.const (.slice none 0 0)) (.tmp 142) 31 4 (.bool false) 1 rfl Try.underlying31 info_bool rfl (by decide) (by decide) (.slice none 0 0) [] (outL i b) A2 (outL i b).length c2 (fun _ => True) (fun _ => False) rfl rfl ?aO ?aR (fun _ _ h => h) (fun _ h => h.elim) (fun _ _ => trivial) ?aB ?aS ?aL ?_; (case aO => with_reducible exact (Kd.R_nil Kd.bool _ _ _ _)); (case aR => exact (by first | with_reducible exact HC3.out | with_reducible exact Kd.C_drewN HC3.out _ | exact Kd.C_drewN HC3.out _ | exact HC3.out)); (case aB => with_reducible exact (by first | with_reducible exact HB3.out | with_reducible exact HB3.out.trans (below_drewN _ _ _))); (case aS => exact (below_size (by first | with_reducible exact HB3.out | with_reducible exact HB3.out.trans (below_drewN _ _ _)))); (case aL => exact aL_1 HLL.out); intro v5 w5 hR5 hB5 hg5 hat5; rw [List.nil_append] at hR5; have HR5 := Lib.hid hR5; have HB5 := Lib.hid hB5; clear hR5 hB5 hg5 hat5)
                  | ((with_reducible refine gate_builtin (b := .append) (xs := #[.tmp 143, .tmp 144]) rfl ?_); at_builtin; refine Kd.R_append_rows Kd.bool (w0 := wd) wd.heap.size rfl (.tmp 143) (.tmp 144) 31 4 (.bool false) 1 rfl Try.underlying31 info_bool rfl (by decide) (by decide) v5 (outL i b) l6 A6 l6.length _ (fun _ => True) (fun _ => False) rfl rfl ?aO ?aR (fun _ _ h => h) (fun _ h => h.elim) (fun _ _ => trivial) ?aB ?aS ?aL ?_; (case aO => with_reducible exact HR5.out); (case aR => exact (Kd.C_below (Kd.C_below HC6.out HWd.out) (HB5.out.mono (Nat.le_refl _)))); (case aB => with_reducible exact HB5.out); (case aS => exact (below_size HB5.out)); (case aL => exact aL_2 HLL.out); intro v6 w6 hR6 hB6 hg6 hat6; rw [← HL.out] at hR6; have HB6 := Lib.hid hB6; obtain ⟨A4, c4, rfl, hle4, hC4⟩ := Kd.R_reads hR6; have HC4 := Lib.hid hC4; have HLE4 := Lib.hid hle4; clear hR6 hB6 hg6 hat6 hC4 hle4))
                all_goals exact ⟨⟨b + 1, by rw [hgs], by go_num, by omega, Lib.hid (by first | exact HB7.out | exact HB7.out.trans (below_drewN _ _ _))⟩, by simp [intOf]; omega⟩
              · have m37 : ((b : Int) % 37 != 0) = true := by simp [g37]
                go_wp2_with (first
                  | (go_at_call 20; refine (overburdenref07_Outcome.calls 100 i b _ _ HOUT.out).mono ?_; rintro e w2 ⟨v0, rfl, hR, hB2⟩; have HB2 := Lib.hid hB2; obtain ⟨A2, c2, rfl, hle2, hC2⟩ := Kd.R_reads hR; have HC2 := Lib.hid hC2; have HLE2 := Lib.hid hle2; clear hR hB2 hC2 hle2)
                  | (go_at_call 24; refine (count_Decide.calls A2 c2 _ D a2 lo hi _ _ _ _ HC2.out HLE2.out HDEC.out).mono ?_; rintro e w3 ⟨rfl, hB3⟩; have HC3 := Lib.hid (Kd.C_below HC2.out hB3); have HB3 := Lib.hid (below_3 HBR HB2 hB3); clear hB3 HDEC)
                  | (go_at_call 23; refine (overburdenref07_Weight.calls 100 A2 c2 _ D r _ _ HC3.out HLE2.out HWT.out).mono ?_; rintro e w4 ⟨rfl, hdr⟩; obtain ⟨mw, rfl⟩ := hdr.out; clear hdr))
                all_goals exact ⟨⟨b + 1, by rw [hgs], by go_num, by omega, Lib.hid (by first | exact HB3.out | exact HB3.out.trans (below_drewN _ _ _))⟩, by simp [intOf]; omega⟩
            · simp at hgs
              have hst2 := hst (by decide)
              rw [hst2] at hde2
              simp only at hde2
              obtain ⟨L, hL⟩ : ∃ L, L = outL i b ++ l6 := ⟨_, rfl⟩
              rw [← hL] at hde2
              have HL := Lib.hid hL
              clear hL
              have HDE2 := Lib.hid hde2
              clear hst hst2 hde2
              rcases Classical.em ((b : Int) % 37 = 0) with g37 | g37
              · have m37 : ((b : Int) % 37 != 0) = false := by simp [g37]
                go_wp2_with (first
                  | (go_at_call 24; refine (count_Decide.calls A4 c4 L D a2 lo hi _ _ _ _ HC4.out HLE4.out HDE2.out).mono ?_; rintro e w7 ⟨rfl, hB7⟩; have HB7 := Lib.hid (HB6.out.trans (hB7.mono HB6.out.size)); clear hB7)
                  | (go_at_call 20; refine (overburdenref07_Outcome.calls 100 i b _ _ HOUT.out).mono ?_; rintro e w2 ⟨v0, rfl, hR, hB2⟩; have HB2 := Lib.hid hB2; obtain ⟨A2, c2, rfl, hle2, hC2⟩ := Kd.R_reads hR; have HC2 := Lib.hid hC2; have HLE2 := Lib.hid hle2; clear hR hB2 hC2 hle2)
                  | (go_at_call 24; refine (count_Decide.calls A2 c2 _ D a2 lo hi _ _ _ _ HC2.out HLE2.out HDEC.out).mono ?_; rintro e w3 ⟨rfl, hB3⟩; have HC3 := Lib.hid (Kd.C_below HC2.out hB3); have HB3 := Lib.hid (below_3 HBR HB2 hB3); clear hB3 HDEC)
                  | (go_at_call 23; refine (overburdenref07_Weight.calls 100 A2 c2 _ D r _ _ HC3.out HLE2.out HWT.out).mono ?_; rintro e w4 ⟨rfl, hdr⟩; obtain ⟨mw, rfl⟩ := hdr.out; clear hdr)
                  | ((with_reducible refine gate_builtin (b := .append) (xs := #[.const (.slice none 0 0), .tmp 142]) rfl ?_); at_builtin; refine Kd.R_append_rows Kd.bool (w0 := wd) wd.heap.size rfl (.const (.slice none 0 0)) (.tmp 142) 31 4 (.bool false) 1 rfl Try.underlying31 info_bool rfl (by decide) (by decide) (.slice none 0 0) [] (outL i b) A2 (outL i b).length c2 (fun _ => True) (fun _ => False) rfl rfl ?aO ?aR (fun _ _ h => h) (fun _ h => h.elim) (fun _ _ => trivial) ?aB ?aS ?aL ?_; (case aO => with_reducible exact (Kd.R_nil Kd.bool _ _ _ _)); (case aR => exact (by first | with_reducible exact HC3.out | with_reducible exact Kd.C_drewN HC3.out _ | exact Kd.C_drewN HC3.out _ | exact HC3.out)); (case aB => with_reducible exact (by first | with_reducible exact HB3.out | with_reducible exact HB3.out.trans (below_drewN _ _ _))); (case aS => exact (below_size (by first | with_reducible exact HB3.out | with_reducible exact HB3.out.trans (below_drewN _ _ _)))); (case aL => exact aL_1 HLL.out); intro v5 w5 hR5 hB5 hg5 hat5; rw [List.nil_append] at hR5; have HR5 := Lib.hid hR5; have HB5 := Lib.hid hB5; clear hR5 hB5 hg5 hat5)
                  | ((with_reducible refine gate_builtin (b := .append) (xs := #[.tmp 143, .tmp 144]) rfl ?_); at_builtin; refine Kd.R_append_rows Kd.bool (w0 := wd) wd.heap.size rfl (.tmp 143) (.tmp 144) 31 4 (.bool false) 1 rfl Try.underlying31 info_bool rfl (by decide) (by decide) v5 (outL i b) l6 A6 l6.length _ (fun _ => True) (fun _ => False) rfl rfl ?aO ?aR (fun _ _ h => h) (fun _ h => h.elim) (fun _ _ => trivial) ?aB ?aS ?aL ?_; (case aO => with_reducible exact HR5.out); (case aR => exact (Kd.C_below (Kd.C_below HC6.out HWd.out) (HB5.out.mono (Nat.le_refl _)))); (case aB => with_reducible exact HB5.out); (case aS => exact (below_size HB5.out)); (case aL => exact aL_2 HLL.out); intro v6 w6 hR6 hB6 hg6 hat6; rw [← HL.out] at hR6; have HB6 := Lib.hid hB6; obtain ⟨A4, c4, rfl, hle4, hC4⟩ := Kd.R_reads hR6; have HC4 := Lib.hid hC4; have HLE4 := Lib.hid hle4; clear hR6 hB6 hg6 hat6 hC4 hle4))
                all_goals exact ⟨⟨b + 1, by rw [hgs], by go_num, by omega, Lib.hid (by first | exact HB7.out | exact HB7.out.trans (below_drewN _ _ _))⟩, by simp [intOf]; omega⟩
              · have m37 : ((b : Int) % 37 != 0) = true := by simp [g37]
                go_wp2_with (first
                  | (go_at_call 20; refine (overburdenref07_Outcome.calls 100 i b _ _ HOUT.out).mono ?_; rintro e w2 ⟨v0, rfl, hR, hB2⟩; have HB2 := Lib.hid hB2; obtain ⟨A2, c2, rfl, hle2, hC2⟩ := Kd.R_reads hR; have HC2 := Lib.hid hC2; have HLE2 := Lib.hid hle2; clear hR hB2 hC2 hle2)
                  | (go_at_call 24; refine (count_Decide.calls A2 c2 _ D a2 lo hi _ _ _ _ HC2.out HLE2.out HDEC.out).mono ?_; rintro e w3 ⟨rfl, hB3⟩; have HC3 := Lib.hid (Kd.C_below HC2.out hB3); have HB3 := Lib.hid (below_3 HBR HB2 hB3); clear hB3 HDEC)
                  | (go_at_call 23; refine (overburdenref07_Weight.calls 100 A2 c2 _ D r _ _ HC3.out HLE2.out HWT.out).mono ?_; rintro e w4 ⟨rfl, hdr⟩; obtain ⟨mw, rfl⟩ := hdr.out; clear hdr))
                all_goals exact ⟨⟨b + 1, by rw [hgs], by go_num, by omega, Lib.hid (by first | exact HB3.out | exact HB3.out.trans (below_drewN _ _ _))⟩, by simp [intOf]; omega⟩
          · have m1 : decide ((hi : Int) ≤ (r : Int)) = false := decide_eq_false (by omega)
            rcases Classical.em (r ≤ lo) with g2 | g2
            · have m2 : decide ((r : Int) ≤ (lo : Int)) = true := decide_eq_true (by omega)
              rw [decide_eq_false g1, decide_eq_true g2] at hgs
              rcases hv with rfl | rfl | rfl
              · simp at hgs
                go_wp2_with (first
                  | (go_at_call 20; refine (overburdenref07_Outcome.calls 100 i b _ _ HOUT.out).mono ?_; rintro e w2 ⟨v0, rfl, hR, hB2⟩; have HB2 := Lib.hid hB2; obtain ⟨A2, c2, rfl, hle2, hC2⟩ := Kd.R_reads hR; have HC2 := Lib.hid hC2; have HLE2 := Lib.hid hle2; clear hR hB2 hC2 hle2)
                  | (go_at_call 24; refine (count_Decide.calls A2 c2 _ D a2 lo hi _ _ _ _ HC2.out HLE2.out HDEC.out).mono ?_; rintro e w3 ⟨rfl, hB3⟩; have HC3 := Lib.hid (Kd.C_below HC2.out hB3); have HB3 := Lib.hid (below_3 HBR HB2 hB3); clear hB3 HDEC)
                  | (go_at_call 23; refine (overburdenref07_Weight.calls 100 A2 c2 _ D r _ _ HC3.out HLE2.out HWT.out).mono ?_; rintro e w4 ⟨rfl, hdr⟩; obtain ⟨mw, rfl⟩ := hdr.out; clear hdr))
                all_goals exact ⟨⟨b + 1, by rw [hgs], by go_num, by omega, Lib.hid (by first | exact HB3.out | exact HB3.out.trans (below_drewN _ _ _))⟩, by simp [intOf]; omega⟩
              · simp at hgs
                have hst2 := hst (by decide)
                rw [hst2] at hde2
                simp only at hde2
                obtain ⟨L, hL⟩ : ∃ L, L = outL i b ++ l6 := ⟨_, rfl⟩
                rw [← hL] at hde2
                have HL := Lib.hid hL
                clear hL
                have HDE2 := Lib.hid hde2
                clear hst hst2 hde2
                rcases Classical.em ((b : Int) % 37 = 0) with g37 | g37
                · have m37 : ((b : Int) % 37 != 0) = false := by simp [g37]
                  go_wp2_with (first
                    | (go_at_call 24; refine (count_Decide.calls A4 c4 L D a2 lo hi _ _ _ _ HC4.out HLE4.out HDE2.out).mono ?_; rintro e w7 ⟨rfl, hB7⟩; have HB7 := Lib.hid (HB6.out.trans (hB7.mono HB6.out.size)); clear hB7)
                    | (go_at_call 20; refine (overburdenref07_Outcome.calls 100 i b _ _ HOUT.out).mono ?_; rintro e w2 ⟨v0, rfl, hR, hB2⟩; have HB2 := Lib.hid hB2; obtain ⟨A2, c2, rfl, hle2, hC2⟩ := Kd.R_reads hR; have HC2 := Lib.hid hC2; have HLE2 := Lib.hid hle2; clear hR hB2 hC2 hle2)
                    | (go_at_call 24; refine (count_Decide.calls A2 c2 _ D a2 lo hi _ _ _ _ HC2.out HLE2.out HDEC.out).mono ?_; rintro e w3 ⟨rfl, hB3⟩; have HC3 := Lib.hid (Kd.C_below HC2.out hB3); have HB3 := Lib.hid (below_3 HBR HB2 hB3); clear hB3 HDEC)
                    | (go_at_call 23; refine (overburdenref07_Weight.calls 100 A2 c2 _ D r _ _ HC3.out HLE2.out HWT.out).mono ?_; rintro e w4 ⟨rfl, hdr⟩; obtain ⟨mw, rfl⟩ := hdr.out; clear hdr)
                    | ((with_reducible refine gate_builtin (b := .append) (xs := #[.const (.slice none 0 0), .tmp 142]) rfl ?_); at_builtin; refine Kd.R_append_rows Kd.bool (w0 := wd) wd.heap.size rfl (.const (.slice none 0 0)) (.tmp 142) 31 4 (.bool false) 1 rfl Try.underlying31 info_bool rfl (by decide) (by decide) (.slice none 0 0) [] (outL i b) A2 (outL i b).length c2 (fun _ => True) (fun _ => False) rfl rfl ?aO ?aR (fun _ _ h => h) (fun _ h => h.elim) (fun _ _ => trivial) ?aB ?aS ?aL ?_; (case aO => with_reducible exact (Kd.R_nil Kd.bool _ _ _ _)); (case aR => exact (by first | with_reducible exact HC3.out | with_reducible exact Kd.C_drewN HC3.out _ | exact Kd.C_drewN HC3.out _ | exact HC3.out)); (case aB => with_reducible exact (by first | with_reducible exact HB3.out | with_reducible exact HB3.out.trans (below_drewN _ _ _))); (case aS => exact (below_size (by first | with_reducible exact HB3.out | with_reducible exact HB3.out.trans (below_drewN _ _ _)))); (case aL => exact aL_1 HLL.out); intro v5 w5 hR5 hB5 hg5 hat5; rw [List.nil_append] at hR5; have HR5 := Lib.hid hR5; have HB5 := Lib.hid hB5; clear hR5 hB5 hg5 hat5)
                    | ((with_reducible refine gate_builtin (b := .append) (xs := #[.tmp 143, .tmp 144]) rfl ?_); at_builtin; refine Kd.R_append_rows Kd.bool (w0 := wd) wd.heap.size rfl (.tmp 143) (.tmp 144) 31 4 (.bool false) 1 rfl Try.underlying31 info_bool rfl (by decide) (by decide) v5 (outL i b) l6 A6 l6.length _ (fun _ => True) (fun _ => False) rfl rfl ?aO ?aR (fun _ _ h => h) (fun _ h => h.elim) (fun _ _ => trivial) ?aB ?aS ?aL ?_; (case aO => with_reducible exact HR5.out); (case aR => exact (Kd.C_below (Kd.C_below HC6.out HWd.out) (HB5.out.mono (Nat.le_refl _)))); (case aB => with_reducible exact HB5.out); (case aS => exact (below_size HB5.out)); (case aL => exact aL_2 HLL.out); intro v6 w6 hR6 hB6 hg6 hat6; rw [← HL.out] at hR6; have HB6 := Lib.hid hB6; obtain ⟨A4, c4, rfl, hle4, hC4⟩ := Kd.R_reads hR6; have HC4 := Lib.hid hC4; have HLE4 := Lib.hid hle4; clear hR6 hB6 hg6 hat6 hC4 hle4))
                  all_goals exact ⟨⟨b + 1, by rw [hgs], by go_num, by omega, Lib.hid (by first | exact HB7.out | exact HB7.out.trans (below_drewN _ _ _))⟩, by simp [intOf]; omega⟩
                · have m37 : ((b : Int) % 37 != 0) = true := by simp [g37]
                  go_wp2_with (first
                    | (go_at_call 20; refine (overburdenref07_Outcome.calls 100 i b _ _ HOUT.out).mono ?_; rintro e w2 ⟨v0, rfl, hR, hB2⟩; have HB2 := Lib.hid hB2; obtain ⟨A2, c2, rfl, hle2, hC2⟩ := Kd.R_reads hR; have HC2 := Lib.hid hC2; have HLE2 := Lib.hid hle2; clear hR hB2 hC2 hle2)
                    | (go_at_call 24; refine (count_Decide.calls A2 c2 _ D a2 lo hi _ _ _ _ HC2.out HLE2.out HDEC.out).mono ?_; rintro e w3 ⟨rfl, hB3⟩; have HC3 := Lib.hid (Kd.C_below HC2.out hB3); have HB3 := Lib.hid (below_3 HBR HB2 hB3); clear hB3 HDEC)
                    | (go_at_call 23; refine (overburdenref07_Weight.calls 100 A2 c2 _ D r _ _ HC3.out HLE2.out HWT.out).mono ?_; rintro e w4 ⟨rfl, hdr⟩; obtain ⟨mw, rfl⟩ := hdr.out; clear hdr))
                  all_goals exact ⟨⟨b + 1, by rw [hgs], by go_num, by omega, Lib.hid (by first | exact HB3.out | exact HB3.out.trans (below_drewN _ _ _))⟩, by simp [intOf]; omega⟩
              · simp at hgs
                have hst2 := hst (by decide)
                rw [hst2] at hde2
                simp only at hde2
                obtain ⟨L, hL⟩ : ∃ L, L = outL i b ++ l6 := ⟨_, rfl⟩
                rw [← hL] at hde2
                have HL := Lib.hid hL
                clear hL
                have HDE2 := Lib.hid hde2
                clear hst hst2 hde2
                rcases Classical.em ((b : Int) % 37 = 0) with g37 | g37
                · have m37 : ((b : Int) % 37 != 0) = false := by simp [g37]
                  go_wp2_with (first
                    | (go_at_call 24; refine (count_Decide.calls A4 c4 L D a2 lo hi _ _ _ _ HC4.out HLE4.out HDE2.out).mono ?_; rintro e w7 ⟨rfl, hB7⟩; have HB7 := Lib.hid (HB6.out.trans (hB7.mono HB6.out.size)); clear hB7)
                    | (go_at_call 20; refine (overburdenref07_Outcome.calls 100 i b _ _ HOUT.out).mono ?_; rintro e w2 ⟨v0, rfl, hR, hB2⟩; have HB2 := Lib.hid hB2; obtain ⟨A2, c2, rfl, hle2, hC2⟩ := Kd.R_reads hR; have HC2 := Lib.hid hC2; have HLE2 := Lib.hid hle2; clear hR hB2 hC2 hle2)
                    | (go_at_call 24; refine (count_Decide.calls A2 c2 _ D a2 lo hi _ _ _ _ HC2.out HLE2.out HDEC.out).mono ?_; rintro e w3 ⟨rfl, hB3⟩; have HC3 := Lib.hid (Kd.C_below HC2.out hB3); have HB3 := Lib.hid (below_3 HBR HB2 hB3); clear hB3 HDEC)
                    | (go_at_call 23; refine (overburdenref07_Weight.calls 100 A2 c2 _ D r _ _ HC3.out HLE2.out HWT.out).mono ?_; rintro e w4 ⟨rfl, hdr⟩; obtain ⟨mw, rfl⟩ := hdr.out; clear hdr)
                    | ((with_reducible refine gate_builtin (b := .append) (xs := #[.const (.slice none 0 0), .tmp 142]) rfl ?_); at_builtin; refine Kd.R_append_rows Kd.bool (w0 := wd) wd.heap.size rfl (.const (.slice none 0 0)) (.tmp 142) 31 4 (.bool false) 1 rfl Try.underlying31 info_bool rfl (by decide) (by decide) (.slice none 0 0) [] (outL i b) A2 (outL i b).length c2 (fun _ => True) (fun _ => False) rfl rfl ?aO ?aR (fun _ _ h => h) (fun _ h => h.elim) (fun _ _ => trivial) ?aB ?aS ?aL ?_; (case aO => with_reducible exact (Kd.R_nil Kd.bool _ _ _ _)); (case aR => exact (by first | with_reducible exact HC3.out | with_reducible exact Kd.C_drewN HC3.out _ | exact Kd.C_drewN HC3.out _ | exact HC3.out)); (case aB => with_reducible exact (by first | with_reducible exact HB3.out | with_reducible exact HB3.out.trans (below_drewN _ _ _))); (case aS => exact (below_size (by first | with_reducible exact HB3.out | with_reducible exact HB3.out.trans (below_drewN _ _ _)))); (case aL => exact aL_1 HLL.out); intro v5 w5 hR5 hB5 hg5 hat5; rw [List.nil_append] at hR5; have HR5 := Lib.hid hR5; have HB5 := Lib.hid hB5; clear hR5 hB5 hg5 hat5)
                    | ((with_reducible refine gate_builtin (b := .append) (xs := #[.tmp 143, .tmp 144]) rfl ?_); at_builtin; refine Kd.R_append_rows Kd.bool (w0 := wd) wd.heap.size rfl (.tmp 143) (.tmp 144) 31 4 (.bool false) 1 rfl Try.underlying31 info_bool rfl (by decide) (by decide) v5 (outL i b) l6 A6 l6.length _ (fun _ => True) (fun _ => False) rfl rfl ?aO ?aR (fun _ _ h => h) (fun _ h => h.elim) (fun _ _ => trivial) ?aB ?aS ?aL ?_; (case aO => with_reducible exact HR5.out); (case aR => exact (Kd.C_below (Kd.C_below HC6.out HWd.out) (HB5.out.mono (Nat.le_refl _)))); (case aB => with_reducible exact HB5.out); (case aS => exact (below_size HB5.out)); (case aL => exact aL_2 HLL.out); intro v6 w6 hR6 hB6 hg6 hat6; rw [← HL.out] at hR6; have HB6 := Lib.hid hB6; obtain ⟨A4, c4, rfl, hle4, hC4⟩ := Kd.R_reads hR6; have HC4 := Lib.hid hC4; have HLE4 := Lib.hid hle4; clear hR6 hB6 hg6 hat6 hC4 hle4))
                  all_goals exact ⟨⟨b + 1, by rw [hgs], by go_num, by omega, Lib.hid (by first | exact HB7.out | exact HB7.out.trans (below_drewN _ _ _))⟩, by simp [intOf]; omega⟩
                · have m37 : ((b : Int) % 37 != 0) = true := by simp [g37]
                  go_wp2_with (first
                    | (go_at_call 20; refine (overburdenref07_Outcome.calls 100 i b _ _ HOUT.out).mono ?_; rintro e w2 ⟨v0, rfl, hR, hB2⟩; have HB2 := Lib.hid hB2; obtain ⟨A2, c2, rfl, hle2, hC2⟩ := Kd.R_reads hR; have HC2 := Lib.hid hC2; have HLE2 := Lib.hid hle2; clear hR hB2 hC2 hle2)
                    | (go_at_call 24; refine (count_Decide.calls A2 c2 _ D a2 lo hi _ _ _ _ HC2.out HLE2.out HDEC.out).mono ?_; rintro e w3 ⟨rfl, hB3⟩; have HC3 := Lib.hid (Kd.C_below HC2.out hB3); have HB3 := Lib.hid (below_3 HBR HB2 hB3); clear hB3 HDEC)
                    | (go_at_call 23; refine (overburdenref07_Weight.calls 100 A2 c2 _ D r _ _ HC3.out HLE2.out HWT.out).mono ?_; rintro e w4 ⟨rfl, hdr⟩; obtain ⟨mw, rfl⟩ := hdr.out; clear hdr))
                  all_goals exact ⟨⟨b + 1, by rw [hgs], by go_num, by omega, Lib.hid (by first | exact HB3.out | exact HB3.out.trans (below_drewN _ _ _))⟩, by simp [intOf]; omega⟩
            · have m2 : decide ((r : Int) ≤ (lo : Int)) = false := decide_eq_false (by omega)
              rw [decide_eq_false g1, decide_eq_false g2] at hgs
              rcases hv with rfl | rfl | rfl
              · simp at hgs
                go_wp2_with (first
                  | (go_at_call 20; refine (overburdenref07_Outcome.calls 100 i b _ _ HOUT.out).mono ?_; rintro e w2 ⟨v0, rfl, hR, hB2⟩; have HB2 := Lib.hid hB2; obtain ⟨A2, c2, rfl, hle2, hC2⟩ := Kd.R_reads hR; have HC2 := Lib.hid hC2; have HLE2 := Lib.hid hle2; clear hR hB2 hC2 hle2)
                  | (go_at_call 24; refine (count_Decide.calls A2 c2 _ D a2 lo hi _ _ _ _ HC2.out HLE2.out HDEC.out).mono ?_; rintro e w3 ⟨rfl, hB3⟩; have HC3 := Lib.hid (Kd.C_below HC2.out hB3); have HB3 := Lib.hid (below_3 HBR HB2 hB3); clear hB3 HDEC)
                  | (go_at_call 23; refine (overburdenref07_Weight.calls 100 A2 c2 _ D r _ _ HC3.out HLE2.out HWT.out).mono ?_; rintro e w4 ⟨rfl, hdr⟩; obtain ⟨mw, rfl⟩ := hdr.out; clear hdr))
                all_goals exact ⟨⟨b + 1, by rw [hgs], by go_num, by omega, Lib.hid (by first | exact HB3.out | exact HB3.out.trans (below_drewN _ _ _))⟩, by simp [intOf]; omega⟩
              · simp at hgs
                have hst2 := hst (by decide)
                rw [hst2] at hde2
                simp only at hde2
                obtain ⟨L, hL⟩ : ∃ L, L = outL i b ++ l6 := ⟨_, rfl⟩
                rw [← hL] at hde2
                have HL := Lib.hid hL
                clear hL
                have HDE2 := Lib.hid hde2
                clear hst hst2 hde2
                rcases Classical.em ((b : Int) % 37 = 0) with g37 | g37
                · have m37 : ((b : Int) % 37 != 0) = false := by simp [g37]
                  go_wp2_with (first
                    | (go_at_call 24; refine (count_Decide.calls A4 c4 L D a2 lo hi _ _ _ _ HC4.out HLE4.out HDE2.out).mono ?_; rintro e w7 ⟨rfl, hB7⟩; have HB7 := Lib.hid (HB6.out.trans (hB7.mono HB6.out.size)); clear hB7)
                    | (go_at_call 20; refine (overburdenref07_Outcome.calls 100 i b _ _ HOUT.out).mono ?_; rintro e w2 ⟨v0, rfl, hR, hB2⟩; have HB2 := Lib.hid hB2; obtain ⟨A2, c2, rfl, hle2, hC2⟩ := Kd.R_reads hR; have HC2 := Lib.hid hC2; have HLE2 := Lib.hid hle2; clear hR hB2 hC2 hle2)
                    | (go_at_call 24; refine (count_Decide.calls A2 c2 _ D a2 lo hi _ _ _ _ HC2.out HLE2.out HDEC.out).mono ?_; rintro e w3 ⟨rfl, hB3⟩; have HC3 := Lib.hid (Kd.C_below HC2.out hB3); have HB3 := Lib.hid (below_3 HBR HB2 hB3); clear hB3 HDEC)
                    | (go_at_call 23; refine (overburdenref07_Weight.calls 100 A2 c2 _ D r _ _ HC3.out HLE2.out HWT.out).mono ?_; rintro e w4 ⟨rfl, hdr⟩; obtain ⟨mw, rfl⟩ := hdr.out; clear hdr)
                    | ((with_reducible refine gate_builtin (b := .append) (xs := #[.const (.slice none 0 0), .tmp 142]) rfl ?_); at_builtin; refine Kd.R_append_rows Kd.bool (w0 := wd) wd.heap.size rfl (.const (.slice none 0 0)) (.tmp 142) 31 4 (.bool false) 1 rfl Try.underlying31 info_bool rfl (by decide) (by decide) (.slice none 0 0) [] (outL i b) A2 (outL i b).length c2 (fun _ => True) (fun _ => False) rfl rfl ?aO ?aR (fun _ _ h => h) (fun _ h => h.elim) (fun _ _ => trivial) ?aB ?aS ?aL ?_; (case aO => with_reducible exact (Kd.R_nil Kd.bool _ _ _ _)); (case aR => exact (by first | with_reducible exact HC3.out | with_reducible exact Kd.C_drewN HC3.out _ | exact Kd.C_drewN HC3.out _ | exact HC3.out)); (case aB => with_reducible exact (by first | with_reducible exact HB3.out | with_reducible exact HB3.out.trans (below_drewN _ _ _))); (case aS => exact (below_size (by first | with_reducible exact HB3.out | with_reducible exact HB3.out.trans (below_drewN _ _ _)))); (case aL => exact aL_1 HLL.out); intro v5 w5 hR5 hB5 hg5 hat5; rw [List.nil_append] at hR5; have HR5 := Lib.hid hR5; have HB5 := Lib.hid hB5; clear hR5 hB5 hg5 hat5)
                    | ((with_reducible refine gate_builtin (b := .append) (xs := #[.tmp 143, .tmp 144]) rfl ?_); at_builtin; refine Kd.R_append_rows Kd.bool (w0 := wd) wd.heap.size rfl (.tmp 143) (.tmp 144) 31 4 (.bool false) 1 rfl Try.underlying31 info_bool rfl (by decide) (by decide) v5 (outL i b) l6 A6 l6.length _ (fun _ => True) (fun _ => False) rfl rfl ?aO ?aR (fun _ _ h => h) (fun _ h => h.elim) (fun _ _ => trivial) ?aB ?aS ?aL ?_; (case aO => with_reducible exact HR5.out); (case aR => exact (Kd.C_below (Kd.C_below HC6.out HWd.out) (HB5.out.mono (Nat.le_refl _)))); (case aB => with_reducible exact HB5.out); (case aS => exact (below_size HB5.out)); (case aL => exact aL_2 HLL.out); intro v6 w6 hR6 hB6 hg6 hat6; rw [← HL.out] at hR6; have HB6 := Lib.hid hB6; obtain ⟨A4, c4, rfl, hle4, hC4⟩ := Kd.R_reads hR6; have HC4 := Lib.hid hC4; have HLE4 := Lib.hid hle4; clear hR6 hB6 hg6 hat6 hC4 hle4))
                  all_goals exact ⟨⟨b + 1, by rw [hgs], by go_num, by omega, Lib.hid (by first | exact HB7.out | exact HB7.out.trans (below_drewN _ _ _))⟩, by simp [intOf]; omega⟩
                · have m37 : ((b : Int) % 37 != 0) = true := by simp [g37]
                  go_wp2_with (first
                    | (go_at_call 20; refine (overburdenref07_Outcome.calls 100 i b _ _ HOUT.out).mono ?_; rintro e w2 ⟨v0, rfl, hR, hB2⟩; have HB2 := Lib.hid hB2; obtain ⟨A2, c2, rfl, hle2, hC2⟩ := Kd.R_reads hR; have HC2 := Lib.hid hC2; have HLE2 := Lib.hid hle2; clear hR hB2 hC2 hle2)
                    | (go_at_call 24; refine (count_Decide.calls A2 c2 _ D a2 lo hi _ _ _ _ HC2.out HLE2.out HDEC.out).mono ?_; rintro e w3 ⟨rfl, hB3⟩; have HC3 := Lib.hid (Kd.C_below HC2.out hB3); have HB3 := Lib.hid (below_3 HBR HB2 hB3); clear hB3 HDEC)
                    | (go_at_call 23; refine (overburdenref07_Weight.calls 100 A2 c2 _ D r _ _ HC3.out HLE2.out HWT.out).mono ?_; rintro e w4 ⟨rfl, hdr⟩; obtain ⟨mw, rfl⟩ := hdr.out; clear hdr))
                  all_goals exact ⟨⟨b + 1, by rw [hgs], by go_num, by omega, Lib.hid (by first | exact HB3.out | exact HB3.out.trans (below_drewN _ _ _))⟩, by simp [intOf]; omega⟩
              · simp at hgs
                have hst2 := hst (by decide)
                rw [hst2] at hde2
                simp only at hde2
                obtain ⟨L, hL⟩ : ∃ L, L = outL i b ++ l6 := ⟨_, rfl⟩
                rw [← hL] at hde2
                have HL := Lib.hid hL
                clear hL
                have HDE2 := Lib.hid hde2
                clear hst hst2 hde2
                rcases Classical.em ((b : Int) % 37 = 0) with g37 | g37
                · have m37 : ((b : Int) % 37 != 0) = false := by simp [g37]
                  go_wp2_with (first
                    | (go_at_call 24; refine (count_Decide.calls A4 c4 L D a2 lo hi _ _ _ _ HC4.out HLE4.out HDE2.out).mono ?_; rintro e w7 ⟨rfl, hB7⟩; have HB7 := Lib.hid (HB6.out.trans (hB7.mono HB6.out.size)); clear hB7)
                    | (go_at_call 20; refine (overburdenref07_Outcome.calls 100 i b _ _ HOUT.out).mono ?_; rintro e w2 ⟨v0, rfl, hR, hB2⟩; have HB2 := Lib.hid hB2; obtain ⟨A2, c2, rfl, hle2, hC2⟩ := Kd.R_reads hR; have HC2 := Lib.hid hC2; have HLE2 := Lib.hid hle2; clear hR hB2 hC2 hle2)
                    | (go_at_call 24; refine (count_Decide.calls A2 c2 _ D a2 lo hi _ _ _ _ HC2.out HLE2.out HDEC.out).mono ?_; rintro e w3 ⟨rfl, hB3⟩; have HC3 := Lib.hid (Kd.C_below HC2.out hB3); have HB3 := Lib.hid (below_3 HBR HB2 hB3); clear hB3 HDEC)
                    | (go_at_call 23; refine (overburdenref07_Weight.calls 100 A2 c2 _ D r _ _ HC3.out HLE2.out HWT.out).mono ?_; rintro e w4 ⟨rfl, hdr⟩; obtain ⟨mw, rfl⟩ := hdr.out; clear hdr)
                    | ((with_reducible refine gate_builtin (b := .append) (xs := #[.const (.slice none 0 0), .tmp 142]) rfl ?_); at_builtin; refine Kd.R_append_rows Kd.bool (w0 := wd) wd.heap.size rfl (.const (.slice none 0 0)) (.tmp 142) 31 4 (.bool false) 1 rfl Try.underlying31 info_bool rfl (by decide) (by decide) (.slice none 0 0) [] (outL i b) A2 (outL i b).length c2 (fun _ => True) (fun _ => False) rfl rfl ?aO ?aR (fun _ _ h => h) (fun _ h => h.elim) (fun _ _ => trivial) ?aB ?aS ?aL ?_; (case aO => with_reducible exact (Kd.R_nil Kd.bool _ _ _ _)); (case aR => exact (by first | with_reducible exact HC3.out | with_reducible exact Kd.C_drewN HC3.out _ | exact Kd.C_drewN HC3.out _ | exact HC3.out)); (case aB => with_reducible exact (by first | with_reducible exact HB3.out | with_reducible exact HB3.out.trans (below_drewN _ _ _))); (case aS => exact (below_size (by first | with_reducible exact HB3.out | with_reducible exact HB3.out.trans (below_drewN _ _ _)))); (case aL => exact aL_1 HLL.out); intro v5 w5 hR5 hB5 hg5 hat5; rw [List.nil_append] at hR5; have HR5 := Lib.hid hR5; have HB5 := Lib.hid hB5; clear hR5 hB5 hg5 hat5)
                    | ((with_reducible refine gate_builtin (b := .append) (xs := #[.tmp 143, .tmp 144]) rfl ?_); at_builtin; refine Kd.R_append_rows Kd.bool (w0 := wd) wd.heap.size rfl (.tmp 143) (.tmp 144) 31 4 (.bool false) 1 rfl Try.underlying31 info_bool rfl (by decide) (by decide) v5 (outL i b) l6 A6 l6.length _ (fun _ => True) (fun _ => False) rfl rfl ?aO ?aR (fun _ _ h => h) (fun _ h => h.elim) (fun _ _ => trivial) ?aB ?aS ?aL ?_; (case aO => with_reducible exact HR5.out); (case aR => exact (Kd.C_below (Kd.C_below HC6.out HWd.out) (HB5.out.mono (Nat.le_refl _)))); (case aB => with_reducible exact HB5.out); (case aS => exact (below_size HB5.out)); (case aL => exact aL_2 HLL.out); intro v6 w6 hR6 hB6 hg6 hat6; rw [← HL.out] at hR6; have HB6 := Lib.hid hB6; obtain ⟨A4, c4, rfl, hle4, hC4⟩ := Kd.R_reads hR6; have HC4 := Lib.hid hC4; have HLE4 := Lib.hid hle4; clear hR6 hB6 hg6 hat6 hC4 hle4))
                  all_goals exact ⟨⟨b + 1, by rw [hgs], by go_num, by omega, Lib.hid (by first | exact HB7.out | exact HB7.out.trans (below_drewN _ _ _))⟩, by simp [intOf]; omega⟩
                · have m37 : ((b : Int) % 37 != 0) = true := by simp [g37]
                  go_wp2_with (first
                    | (go_at_call 20; refine (overburdenref07_Outcome.calls 100 i b _ _ HOUT.out).mono ?_; rintro e w2 ⟨v0, rfl, hR, hB2⟩; have HB2 := Lib.hid hB2; obtain ⟨A2, c2, rfl, hle2, hC2⟩ := Kd.R_reads hR; have HC2 := Lib.hid hC2; have HLE2 := Lib.hid hle2; clear hR hB2 hC2 hle2)
                    | (go_at_call 24; refine (count_Decide.calls A2 c2 _ D a2 lo hi _ _ _ _ HC2.out HLE2.out HDEC.out).mono ?_; rintro e w3 ⟨rfl, hB3⟩; have HC3 := Lib.hid (Kd.C_below HC2.out hB3); have HB3 := Lib.hid (below_3 HBR HB2 hB3); clear hB3 HDEC)
                    | (go_at_call 23; refine (overburdenref07_Weight.calls 100 A2 c2 _ D r _ _ HC3.out HLE2.out HWT.out).mono ?_; rintro e w4 ⟨rfl, hdr⟩; obtain ⟨mw, rfl⟩ := hdr.out; clear hdr))
                  all_goals exact ⟨⟨b + 1, by rw [hgs], by go_num, by omega, Lib.hid (by first | exact HB3.out | exact HB3.out.trans (below_drewN _ _ _))⟩, by simp [intOf]; omega⟩
        · obtain rfl : b = N := by omega
          go_wp2_with (go_at_call 17; refine (known_w _).mono ?_; rintro e w' ⟨rfl, hbel⟩; have HBEL := Lib.hid hbel; clear hbel)
          go_ret
          exact ⟨rfl, (HWd.out.trans (HBR.out.mono HWd.out.size)).trans (HBEL.out.mono (HWd.out.trans (HBR.out.mono HWd.out.size)).size)⟩
end Go.Proofs.Ytgofaifmbjallaa.Pure
