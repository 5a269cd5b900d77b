import Derived.Test.YteigcddmbpfahaaYp
namespace Go.Proofs.Yteigcddmbpfahaa.Pure
set_option linter.unusedVariables false
open Go.RowKit Go.Proofs.Yteigcddmbpfahaa.Pa Go.Proofs.YteigcddmbpfahaaW.PrintWords Go.Proofs.YteigcddmbpfahaaW.PrintLast Go.Proofs.YteigcddmbpfahaaW.PrintMore
open Go.Proofs.Yteigcddmbpfahaa.Cn

set_option maxRecDepth 100000 in
set_option maxHeartbeats 8000000 in
theorem ch_loop2 (i D bx bs bh lo hi k1 k2 M : Nat) (x5 : Int) (G1 G2 : Nat → Int) (wd : World) {u0 u1 u2 u3 u4 u7 u9 u10 u11 u12 u13 u14 u15 u16 u18 u20 u25 u26 u28 u29 u30 u31 u32 u33 u34 u35 u36 u37 u38 u39 u40 u41 u42 u43 u44 u45 u46 u47 u48 u49 u50 u51 u52 u53 u54 u55 u56 u57 u58 u59 u60 u61 u62 u63 u64 u65 u66 u67 u68 u69 u70 u71 u72 u73 u74 u75 u76 u77 u78 u79 u80 u81 u82 u83 u84 u85 u86 u87 u88 u89 u90 u91 u92 u93 u94 u95 u96 u97 u98 u99 u100 u101 u102 u103 u104 u105 u106 u107 u108 u109 u110 u111 u112 u113 u114 u115 u116 u117 u118 u119 u120 u121 u122 u123 u124 u125 u126 u127 u128 u129 u130 u131 u132 u133 u134 u135 u136 u137 u138 u139 u140 u141 u142 u143 u144 u145 u146 u147 u148 u149 u150 u151 u152 u153 u154 u155 u156 u157 u158 u159 u160 u161 u162 u163 u164 u165 u166 u167 u168 u169 u170 u171 u172 u173 u174 u175 u176 u177 u178 u179 u180 u181 u182 u183 u184 u185 u186 u187 u188 u189 u190 u191 u192 u193 u194 u195 u196 u197 u198 u199 u200 u201 u202 u203 u204 u205 u206 u207 u208 u209 u210 u211 u212 u213 u214 u215 u216 u217 u218 u219 u220 u221 u222 u223 u224 u225 u226 u227 u228 u229 u230 u231 u232 u233 u234 u235 u236 u237 u238 u239 u240 u241 u242 u243 u244 u245 u246 u247 u248 u249 u250 u251 u252 : Value} {Q0 : Exit → Act → World → Prop}
    (HNUM : Hid (i ≤ 7 ∧ 2 ≤ D ∧ D ≤ 40 ∧ (2 : Int) ≤ x5 ∧ x5 ≤ 900000 ∧ k1 ≤ lo ∧ lo < hi ∧ hi ≤ D ∧ hi ≤ k2 ∧ k2 ≤ D ∧ M ≤ 512)) (HPW : Hid (wrap64 (2 ^ i) = (M : Int)))
    (v0 : wd.cell? ⟨bx, 0, none⟩ = some (.int .i64 (D : Int))) (HV : Hid (wd.cell? ⟨bs, 1, none⟩ = some (.int .i64 (lo : Int)) ∧ wd.cell? ⟨bh, 0, none⟩ = some (.int .i64 (hi : Int))))
    (HGS1 : Hid (∀ b, G1 (b + 1) = G1 b + wOf D k1 (rightT D lo hi x5 k1) (outL i b))) (HGS2 : Hid (∀ b, G2 (b + 1) = G2 b + wOf D k2 (rightT D lo hi x5 k2) (outL i b))) (HG01 : Hid (G1 0 = 0)) (HG02 : Hid (G2 0 = 0))
    (HBD1 : Hid (∀ b, b ≤ M → 0 ≤ G1 b ∧ G1 b ≤ pw D i)) (HBD2 : Hid (∀ b, b ≤ M → 0 ≤ G2 b ∧ G2 b ≤ pw D i)) (hall : 1 ≤ pw (D : Int) i ∧ pw (D : Int) i ≤ 262144000000000)
    (hexit : ∀ (y16 y28 y29 y30 y31 y196 y197 y198 y199 y200 y201 y202 y203 y204 y205 y206 y207 y208 y209 y210 y211 y212 y213 y214 y215 y216 y217 y218 y219 y220 y221 y222 y223 y224 y225 y226 y227 y228 y229 y230 y231 y232 y233 y234 y235 y236 y237 : Value) (w' : World), Below wd.heap.size wd w' → Q0 (.exit 2) ⟨#[u0, u1, u2, u3, u4, .int .i64 x5, .int .i64 (i : Int), u7, .pointer (some ⟨bx, 0, none⟩), u9, u10, u11, u12, u13, u14, u15, y16, .pointer (some ⟨bs, 0, none⟩), u18, .pointer (some ⟨bh, 0, none⟩), u20, .int .i64 (k1 : Int), .int .i64 (k2 : Int), .int .i64 (G1 M), .int .i64 (G2 M), u25, u26, .int .i64 (M : Int), y28, y29, y30, y31, u32, u33, u34, u35, u36, u37, u38, u39, u40, u41, u42, u43, u44, u45, u46, u47, u48, u49, u50, u51, u52, u53, u54, u55, u56, u57, u58, u59, u60, u61, u62, u63, u64, u65, u66, u67, u68, u69, u70, u71, u72, u73, u74, u75, u76, u77, u78, u79, u80, u81, u82, u83, u84, u85, u86, u87, u88, u89, u90, u91, u92, u93, u94, u95, u96, u97, u98, u99, u100, u101, u102, u103, u104, u105, u106, u107, u108, u109, u110, u111, u112, u113, u114, u115, u116, u117, u118, u119, u120, u121, u122, u123, u124, u125, u126, u127, u128, u129, u130, u131, u132, u133, u134, u135, u136, u137, u138, u139, u140, u141, u142, u143, u144, u145, u146, u147, u148, u149, u150, u151, u152, u153, u154, u155, u156, u157, u158, u159, u160, u161, u162, u163, u164, u165, u166, u167, u168, u169, u170, u171, u172, u173, u174, u175, u176, u177, u178, u179, u180, u181, u182, u183, u184, u185, u186, u187, u188, u189, u190, u191, u192, u193, u194, u195, y196, y197, y198, y199, y200, y201, y202, y203, y204, y205, y206, y207, y208, y209, y210, y211, y212, y213, y214, y215, y216, y217, y218, y219, y220, y221, y222, y223, y224, y225, y226, y227, y228, y229, y230, y231, y232, y233, y234, y235, y236, y237, u238, u239, u240, u241, u242, u243, u244, u245, u246, u247, u248, u249, u250, u251, u252], []⟩ w') :
    Code.wp Try.prog (Code.loop chBody2) Q0 ⟨#[u0, u1, u2, u3, u4, .int .i64 x5, .int .i64 (i : Int), u7, .pointer (some ⟨bx, 0, none⟩), u9, u10, u11, u12, u13, u14, u15, u16, .pointer (some ⟨bs, 0, none⟩), u18, .pointer (some ⟨bh, 0, none⟩), u20, .int .i64 (k1 : Int), .int .i64 (k2 : Int), .int .i64 0, .int .i64 0, u25, u26, .int .i64 0, u28, u29, u30, u31, u32, u33, u34, u35, u36, u37, u38, u39, u40, u41, u42, u43, u44, u45, u46, u47, u48, u49, u50, u51, u52, u53, u54, u55, u56, u57, u58, u59, u60, u61, u62, u63, u64, u65, u66, u67, u68, u69, u70, u71, u72, u73, u74, u75, u76, u77, u78, u79, u80, u81, u82, u83, u84, u85, u86, u87, u88, u89, u90, u91, u92, u93, u94, u95, u96, u97, u98, u99, u100, u101, u102, u103, u104, u105, u106, u107, u108, u109, u110, u111, u112, u113, u114, u115, u116, u117, u118, u119, u120, u121, u122, u123, u124, u125, u126, u127, u128, u129, u130, u131, u132, u133, u134, u135, u136, u137, u138, u139, u140, u141, u142, u143, u144, u145, u146, u147, u148, u149, u150, u151, u152, u153, u154, u155, u156, u157, u158, u159, u160, u161, u162, u163, u164, u165, u166, u167, u168, u169, u170, u171, u172, u173, u174, u175, u176, u177, u178, u179, u180, u181, u182, u183, u184, u185, u186, u187, u188, u189, u190, u191, u192, u193, u194, u195, u196, u197, u198, u199, u200, u201, u202, u203, u204, u205, u206, u207, u208, u209, u210, u211, u212, u213, u214, u215, u216, u217, u218, u219, u220, u221, u222, u223, u224, u225, u226, u227, u228, u229, u230, u231, u232, u233, u234, u235, u236, u237, u238, u239, u240, u241, u242, u243, u244, u245, u246, u247, u248, u249, u250, u251, u252], []⟩ wd := by
  have HX := Lib.hid hexit
  clear hexit
  conv => arg 2; arg 1; whnf
  try dsimp only
  go_loopw [23, 24, 27] (fun v23 v24 v27 wr => ∃ b : Nat, v23 = .int .i64 (G1 b) ∧ v24 = .int .i64 (G2 b) ∧ v27 = .int .i64 b ∧ b ≤ M ∧ Hid (Below wd.heap.size wd wr)) (fun _ _ v27 _ => M - (intOf v27).toNat)
  case atStart => exact ⟨0, by rw [HG01.out], by rw [HG02.out], rfl, by omega, Lib.hid (Below.refl _ _)⟩
  case round =>
    obtain ⟨b, rfl, rfl, rfl, hbN, HBR⟩ := hrel
    have n0_ := cell_kb HBR.out v0
    have n2_ := cell_kb HBR.out HV.out.1
    have n3_ := cell_kb HBR.out HV.out.2
    have hpw := HPW.out
    have hmin : min i 64 = i := Nat.min_eq_left (by have := HNUM.out.1; omega)
    by_cases hlt2 : b < M
    · obtain ⟨z1, z2, z3, z4, z5, hlk1, hlh, hhD, hlk2, hlk3, hN2⟩ := HNUM.out
      have hgs1 := HGS1.out b
      have hgs2 := HGS2.out b
      have hb1 := HBD1.out b (by omega)
      have hb2 := HBD1.out (b + 1) (by omega)
      have hb3 := HBD2.out b (by omega)
      have hb4 := HBD2.out (b + 1) (by omega)
      have HOUT := Lib.hid (ref_outcome i b 100 (by omega) (by omega))
      have HWT1 := Lib.hid (ref_weight (outL i b) D k1 100 (by omega) (by omega) (by omega) (by omega) (by rw [outL_len]; omega) (by rw [outL_len]; omega))
      have HWT2 := Lib.hid (ref_weight (outL i b) D k2 100 (by omega) (by omega) (by omega) (by omega) (by rw [outL_len]; omega) (by rw [outL_len]; omega))
      have hdec : count_Decide.f (outL i b) D x5 lo hi = some ((decideS (runS D x5 (outL i b) Cn.start) D lo hi).1, (decideS (runS D x5 (outL i b) Cn.start) D lo hi).2, 0) := by
        have hfine : (withinB x5 2 900000 && withinB (hi : Int) 1 D && withinB (lo : Int) 0 ((hi : Int) - 1)) = true := by
          rw [Bool.and_eq_true, Bool.and_eq_true, withinB_iff, withinB_iff, withinB_iff]; omega
        have hlist : listedV (outL i b).length D (withinB x5 2 900000 && withinB (hi : Int) 1 D && withinB (lo : Int) 0 ((hi : Int) - 1)) = 0 := by
          unfold listedV
          rw [outL_len, if_neg (by omega), if_neg (by omega), hfine, if_neg (by simp)]
        rw [count_Decide.f, if_pos hlist]; rfl
      have hv := decideS_val (runS D x5 (outL i b) Cn.start) D lo hi
      have hwe1 : wT D k1 (outL i b) = wV D k1 (outL i b) 1 := by
        rw [wV_T (D := (D : Int)) (k := k1) (by omega) (by omega) (by omega) (by omega) (outL i b) 1 (by omega) (by rw [outL_len]; omega), Int.one_mul]
      have hwe2 : wT D k2 (outL i b) = wV D k2 (outL i b) 1 := by
        rw [wV_T (D := (D : Int)) (k := k2) (by omega) (by omega) (by omega) (by omega) (outL i b) 1 (by omega) (by rw [outL_len]; omega), Int.one_mul]
      unfold wOf rightT at hgs1 hgs2
      rw [hwe1, decide_eq_false (show ¬ hi ≤ k1 by omega), decide_eq_true hlk1] at hgs1
      rw [hwe2, decide_eq_true hlk2, decide_eq_false (show ¬ k2 ≤ lo by omega)] at hgs2
      clear hwe1 hwe2
      generalize decideS (runS D x5 (outL i b) Cn.start) D lo hi = dd at *
      obtain ⟨dv, dn⟩ := dd
      simp only at hv hgs1 hgs2 hdec
      have HDEC := Lib.hid hdec
      clear hdec
      generalize wV D k1 (outL i b) 1 = wt1 at *
      generalize wV D k2 (outL i b) 1 = wt2 at *
      clear hlk1 hlk2 hlk3 hlh hhD v0 z1 z2 z3 z4 z5
      rcases hv with rfl | rfl | rfl
      all_goals simp at hgs1 hgs2
      · go_wp2_with (first
          | (go_at_call 10; refine (overburdenref07_Outcome.calls 100 i b _ _ HOUT.out).mono ?_; rintro e w6 ⟨vv0, rfl, hR, hB2⟩; have t0 := cell_kb hB2 n0_; have t2 := cell_kb hB2 n2_; have t3 := cell_kb hB2 n3_; have HB2 := Lib.hid (HBR.out.trans (hB2.mono HBR.out.size)); obtain ⟨A2, c2, rfl, hle2, hC2⟩ := Kd.R_reads hR; have HC2 := Lib.hid hC2; have HLE2 := Lib.hid hle2; clear hR hB2 hC2 hle2 n0_ n2_ n3_)
          | (go_at_call 11; refine (count_Decide.calls A2 c2 _ D x5 lo hi _ _ _ _ HC2.out HLE2.out HDEC.out).mono ?_; rintro e w7 ⟨rfl, hB3⟩; have r0 := cell_kb hB3 t0; have HC3 := Lib.hid (Kd.C_below HC2.out hB3); have HB3 := Lib.hid (HB2.out.trans (hB3.mono HB2.out.size)); clear hB3 HDEC t0 t2 t3))
        all_goals exact ⟨⟨b + 1, by rw [hgs1], by rw [hgs2], by go_num, by omega, Lib.hid (by first | exact HB3.out | exact HB3.out.trans (below_drewN _ _ _))⟩, by simp [intOf]; omega⟩
      · go_wp2_with (first
          | (go_at_call 10; refine (overburdenref07_Outcome.calls 100 i b _ _ HOUT.out).mono ?_; rintro e w6 ⟨vv0, rfl, hR, hB2⟩; have t0 := cell_kb hB2 n0_; have t2 := cell_kb hB2 n2_; have t3 := cell_kb hB2 n3_; have HB2 := Lib.hid (HBR.out.trans (hB2.mono HBR.out.size)); obtain ⟨A2, c2, rfl, hle2, hC2⟩ := Kd.R_reads hR; have HC2 := Lib.hid hC2; have HLE2 := Lib.hid hle2; clear hR hB2 hC2 hle2 n0_ n2_ n3_)
          | (go_at_call 11; refine (count_Decide.calls A2 c2 _ D x5 lo hi _ _ _ _ HC2.out HLE2.out HDEC.out).mono ?_; rintro e w7 ⟨rfl, hB3⟩; have r0 := cell_kb hB3 t0; have HC3 := Lib.hid (Kd.C_below HC2.out hB3); have HB3 := Lib.hid (HB2.out.trans (hB3.mono HB2.out.size)); clear hB3 HDEC t0 t2 t3)
          | (go_at_call 12; refine (overburdenref07_Weight.calls 100 A2 c2 _ D k2 _ _ HC3.out HLE2.out HWT2.out).mono ?_; rintro e w8 ⟨rfl, hdr⟩; obtain ⟨mw, rfl⟩ := hdr.out; clear hdr))
        all_goals exact ⟨⟨b + 1, by rw [hgs1], by rw [hgs2], by go_num, by omega, Lib.hid (by first | exact HB3.out | exact HB3.out.trans (below_drewN _ _ _))⟩, by simp [intOf]; omega⟩
      · go_wp2_with (first
          | (go_at_call 10; refine (overburdenref07_Outcome.calls 100 i b _ _ HOUT.out).mono ?_; rintro e w6 ⟨vv0, rfl, hR, hB2⟩; have t0 := cell_kb hB2 n0_; have t2 := cell_kb hB2 n2_; have t3 := cell_kb hB2 n3_; have HB2 := Lib.hid (HBR.out.trans (hB2.mono HBR.out.size)); obtain ⟨A2, c2, rfl, hle2, hC2⟩ := Kd.R_reads hR; have HC2 := Lib.hid hC2; have HLE2 := Lib.hid hle2; clear hR hB2 hC2 hle2 n0_ n2_ n3_)
          | (go_at_call 11; refine (count_Decide.calls A2 c2 _ D x5 lo hi _ _ _ _ HC2.out HLE2.out HDEC.out).mono ?_; rintro e w7 ⟨rfl, hB3⟩; have r0 := cell_kb hB3 t0; have HC3 := Lib.hid (Kd.C_below HC2.out hB3); have HB3 := Lib.hid (HB2.out.trans (hB3.mono HB2.out.size)); clear hB3 HDEC t0 t2 t3)
          | (go_at_call 12; refine (overburdenref07_Weight.calls 100 A2 c2 _ D k1 _ _ HC3.out HLE2.out HWT1.out).mono ?_; rintro e w8 ⟨rfl, hdr⟩; obtain ⟨mw, rfl⟩ := hdr.out; clear hdr))
        all_goals exact ⟨⟨b + 1, by rw [hgs1], by rw [hgs2], by go_num, by omega, Lib.hid (by first | exact HB3.out | exact HB3.out.trans (below_drewN _ _ _))⟩, by simp [intOf]; omega⟩
    · obtain rfl : b = M := by omega
      clear n0_ n2_ n3_ v0
      go_wp2
      exact HX.out _ _ _ _ _ _ _ _ _ _ _ _ _ _ _ _ _ _ _ _ _ _ _ _ _ _ _ _ _ _ _ _ _ _ _ _ _ _ _ _ _ _ _ _ _ _ _ _ HBR.out
end Go.Proofs.Yteigcddmbpfahaa.Pure
