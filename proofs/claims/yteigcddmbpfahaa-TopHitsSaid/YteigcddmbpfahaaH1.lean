/- Texts of one claim joined into one: words and contracts. -/
import Derived.Test.YteigcddmbpfahaaG2
import Derived.Test.YteigcddmbpfahaaYs
import Derived.Test.YteigcddmbpfahaaTk
section
namespace Go.Proofs.Yteigcddmbpfahaa.Pure
set_option linter.unusedVariables false
set_option linter.unusedSimpArgs false
open Go.RowKit Go.Proofs.YteigcddmbpfahaaW.PrintWords Go.Proofs.YteigcddmbpfahaaW.PrintLast Go.Proofs.YteigcddmbpfahaaW.PrintMore
open Go.Proofs.Yteigcddmbpfahaa.Cn Go.Proofs.Yteigcddmbpfahaa.Pc Go.Proofs.Yteigcddmbpfahaa.Pb Go.Proofs.Yteigcddmbpfahaa.Pa

theorem camp_w {P lv bu : Int} {A : Option Addr} {c : Nat} {ss : List S58} (h8 : ss.length ≤ 8) (hc : ss.length ≤ c) (wx : World) (hr : Kd.C k58 wx A ss.length ss) :
    Calls Try.prog 13 #[.agg #[.int .i64 P, .int .i64 lv, .int .i64 bu, .slice A ss.length c]] wx fun e w' => e = .returned (.bool (decide (Camp0 P lv bu ss))) ∧ Below wx.heap.size wx w' :=
  overburdenref09_Campaign.calls 20 P lv bu A c ss _ wx hr hc (rcamp_f P lv bu ss h8)
theorem choice_w {P lv bu : Int} {A : Option Addr} {c : Nat} {ss : List S58} (h : Camp0 P lv bu ss) (hc : ss.length ≤ c) {A1 : Option Addr} {c1 : Nat} {l : List Int} (hl : l.length ≤ 50) (hc1 : l.length ≤ c1) :
    ∃ r : Bool, (r = true ↔ ChoiceG bu ss l) ∧ ∀ wx : World, Kd.C k58 wx A ss.length ss → Kd.C (Kd.int .i64) wx A1 l.length l →
      Calls Try.prog 16 #[.agg #[.int .i64 P, .int .i64 lv, .int .i64 bu, .slice A ss.length c], .slice A1 l.length c1] wx fun e w' => e = .returned (.bool r) ∧ Below wx.heap.size wx w' := by
  obtain ⟨r, h1, h2⟩ := rchoice_f h hl
  exact ⟨r, h2, fun wx hr hr1 => overburdenref09_Choice.calls 200 P lv bu A c ss A1 c1 l r wx hr hc hr1 hc1 h1⟩
theorem less_f {aw aa bw ba : Int} (a1 : 1 ≤ aa) (a2 : aa ≤ 1152921504606846976) (b1 : 1 ≤ ba) (b2 : ba ≤ 1152921504606846976) (w0 : 0 ≤ aw) (w1 : aw ≤ aa) (v0 : 0 ≤ bw) (v1 : bw ≤ ba) :
    overburdenref09_Less.f aw aa bw ba = some (lessV aw aa bw ba) := by
  have key : ∀ x y z : Int, 1 ≤ x → x ≤ 1152921504606846976 → 1 ≤ y → y ≤ 1152921504606846976 → 0 ≤ z → z ≤ x → wrap64 (z * wrap64 (Int.tdiv y x)) = z * (y / x) := by
    intro x y z h1 h2 h3 h4 h5 h6
    have q0 : 0 ≤ y / x := Int.ediv_nonneg (by omega) (by omega)
    have q1 : y / x ≤ y := Int.ediv_le_self _ (by omega)
    have q2 : x * (y / x) ≤ y := Int.mul_ediv_self_le (by omega)
    have q3 : z * (y / x) ≤ x * (y / x) := Int.mul_le_mul_of_nonneg_right h6 q0
    have q4 : 0 ≤ z * (y / x) := Int.mul_nonneg h5 q0
    rw [Int.tdiv_eq_ediv_of_nonneg (by omega), wrap_id (x := y / x) (by omega) (by omega), wrap_id (by omega) (by omega)]
  unfold overburdenref09_Less.f lessV
  split
  · rw [if_neg (by omega), key aa ba aw a1 a2 b1 b2 w0 w1]
  · rw [if_neg (by omega), key ba aa bw b1 b2 a1 a2 v0 v1]

set_option maxRecDepth 100000 in
set_option maxHeartbeats 8000000 in
theorem hits_guards (P lv bu : Int) (A : Option Addr) (c : Nat) (ss : List S58) (A1 : Option Addr) (c1 : Nat) (l : List Int) (slots : Int) (w : World)
    (hr : Kd.C k58 w A ss.length ss) (hc : ss.length ≤ c) (hr1 : Kd.C (Kd.int .i64) w A1 l.length l) (hc1 : l.length ≤ c1)
    (hb : ¬ (P ≤ 8 ∧ (ss.length : Int) ≤ 8 ∧ (l.length : Int) ≤ 10 ∧ 0 ≤ slots ∧ slots ≤ 2 ∧ Camp0 P lv bu ss ∧ (cwholeV P slots.toNat).2 = true)) :
    Calls Try.prog 4 #[.agg #[.int .i64 P, .int .i64 lv, .int .i64 bu, .slice A ss.length c], .slice A1 l.length c1, .int .i64 slots] w fun e w' => e = .returned (.bool true) ∧ Below w.heap.size w w' := by
  have HC := Lib.hid hr
  have HC1 := Lib.hid hr1
  have hl0 := Kd.C_max hr
  have hl1 := Kd.C_max hr1
  obtain ⟨wa, hwa⟩ : ∃ wa, w.alloc (.cells #[.int .i64 P, .int .i64 lv, .int .i64 bu, .slice A ss.length c] 43 (0, 0)) = wa := ⟨_, rfl⟩
  have hb3 := Blk.new w #[.int .i64 P, .int .i64 lv, .int .i64 bu, .slice A ss.length c] 43
  rw [hwa] at hb3
  have hwb : Below w.heap.size w wa := by rw [← hwa]; exact (Below.refl w.heap.size w).alloc (Nat.le_refl _) _
  have y0 := hb3.cell 0
  have y1 := hb3.cell 1
  have y2 := hb3.cell 2
  have y3 := hb3.cell 3
  simp at y0 y1 y2 y3
  have HW := Lib.hid hwb
  have HB3 := Lib.hid hb3
  clear hr hr1 hwb hb3
  rcases Classical.em (8 < P) with c0 | c0
  · have q0 : decide (8 < P) = true := decide_eq_true c0
    clear c0 hb
    go_enter Try.func4, Try.ntmps4
    go_wp2_with (first | (go_at_call 8; refine (known20_w _).mono ?_; rintro e w9 ⟨rfl, hb9⟩; have HBEL := Lib.hid hb9; clear hb9))
    go_ret
    exact ⟨rfl, HW.out.trans (HBEL.out.mono HW.out.size)⟩
  have q0 : decide (8 < P) = false := decide_eq_false c0
  rcases Classical.em (8 < (ss.length : Int)) with d1 | d1
  · have q1 : decide (8 < (ss.length : Int)) = true := decide_eq_true d1
    clear d1 hb
    go_enter Try.func4, Try.ntmps4
    go_wp2_with (first | (go_at_call 8; refine (known20_w _).mono ?_; rintro e w9 ⟨rfl, hb9⟩; have HBEL := Lib.hid hb9; clear hb9))
    go_ret
    exact ⟨rfl, HW.out.trans (HBEL.out.mono HW.out.size)⟩
  have q1 : decide (8 < (ss.length : Int)) = false := decide_eq_false d1
  rcases Classical.em (10 < (l.length : Int)) with c2 | c2
  · have q2 : decide (10 < (l.length : Int)) = true := decide_eq_true c2
    clear c2 hb
    go_enter Try.func4, Try.ntmps4
    go_wp2_with (first | (go_at_call 8; refine (known20_w _).mono ?_; rintro e w9 ⟨rfl, hb9⟩; have HBEL := Lib.hid hb9; clear hb9))
    go_ret
    exact ⟨rfl, HW.out.trans (HBEL.out.mono HW.out.size)⟩
  have q2 : decide (10 < (l.length : Int)) = false := decide_eq_false c2
  rcases Classical.em (slots < 0) with c3 | c3
  · have q3 : decide (slots < 0) = true := decide_eq_true c3
    clear c3 hb
    go_enter Try.func4, Try.ntmps4
    go_wp2_with (first | (go_at_call 8; refine (known20_w _).mono ?_; rintro e w9 ⟨rfl, hb9⟩; have HBEL := Lib.hid hb9; clear hb9))
    go_ret
    exact ⟨rfl, HW.out.trans (HBEL.out.mono HW.out.size)⟩
  have q3 : decide (slots < 0) = false := decide_eq_false c3
  rcases Classical.em (2 < slots) with c4 | c4
  · have q4 : decide (2 < slots) = true := decide_eq_true c4
    clear c4 hb
    go_enter Try.func4, Try.ntmps4
    go_wp2_with (first | (go_at_call 8; refine (known20_w _).mono ?_; rintro e w9 ⟨rfl, hb9⟩; have HBEL := Lib.hid hb9; clear hb9))
    go_ret
    exact ⟨rfl, HW.out.trans (HBEL.out.mono HW.out.size)⟩
  have q4 : decide (2 < slots) = false := decide_eq_false c4
  have h8 : ss.length ≤ 8 := by omega
  have HCA := Lib.hid (fun wx h => camp_w (P := P) (lv := lv) (bu := bu) (A := A) (c := c) h8 hc wx h)
  by_cases hcam : Camp0 P lv bu ss
  · rw [decide_eq_true hcam] at HCA
    obtain ⟨s, rfl⟩ := Int.eq_ofNat_of_zero_le (show 0 ≤ slots by omega)
    rw [Int.toNat_natCast] at hb
    have hwh : (cwholeV P s).2 = false := by
      rcases h : (cwholeV P s).2 with _ | _
      · rfl
      · exact absurd ⟨by omega, by omega, by omega, by omega, by omega, hcam, h⟩ hb
    have HLO := Lib.hid (fun wx => rlong_calls P lv bu A c ss.length s wx hcam.1 hcam.2.1)
    rw [hwh] at HLO
    clear hcam hb hwh c0 c2 c3 c4
    go_enter Try.func4, Try.ntmps4
    go_wp2_with fail
    clear hwa
    refine (HCA.out _ (Kd.C_below HC.out HW.out)).mono ?_
    rintro e w2 ⟨rfl, hb2⟩
    have HB2 := Lib.hid (HW.out.trans (hb2.mono HW.out.size))
    have z0 := kbc hb2 y0
    have z1 := kbc hb2 y1
    have z2 := kbc hb2 y2
    have z3 := kbc hb2 y3
    clear hb2 y0 y1 y2 y3
    go_wp2_with fail
    refine (HLO.out _).mono ?_
    rintro e w3 ⟨rfl, hb3⟩
    have HB4 := Lib.hid (HB2.out.trans (hb3.mono HB2.out.size))
    clear hb3
    go_wp2_with (go_at_call 8; refine (known20_w _).mono ?_; rintro e w9 ⟨rfl, hb9⟩; have HBEL := Lib.hid hb9; clear hb9)
    go_ret
    exact ⟨rfl, HB4.out.trans (HBEL.out.mono HB4.out.size)⟩
  · rw [decide_eq_false hcam] at HCA
    clear hcam hb c0 c2 c3 c4
    go_enter Try.func4, Try.ntmps4
    go_wp2_with fail
    clear hwa
    refine (HCA.out _ (Kd.C_below HC.out HW.out)).mono ?_
    rintro e w2 ⟨rfl, hb2⟩
    have HB2 := Lib.hid (HW.out.trans (hb2.mono HW.out.size))
    clear hb2 y0 y1 y2 y3
    go_wp2_with (go_at_call 8; refine (known20_w _).mono ?_; rintro e w9 ⟨rfl, hb9⟩; have HBEL := Lib.hid hb9; clear hb9)
    go_ret
    exact ⟨rfl, HB2.out.trans (HBEL.out.mono HB2.out.size)⟩
end Go.Proofs.Yteigcddmbpfahaa.Pure
end
section
namespace Go.Proofs.Yteigcddmbpfahaa.Pure
set_option linter.unusedVariables false
set_option linter.unusedSimpArgs false
open Go.RowKit Go.Proofs.YteigcddmbpfahaaW.PrintWords Go.Proofs.YteigcddmbpfahaaW.PrintLast Go.Proofs.YteigcddmbpfahaaW.PrintMore
open Go.Proofs.Yteigcddmbpfahaa.Cn Go.Proofs.Yteigcddmbpfahaa.Pc Go.Proofs.Yteigcddmbpfahaa.Pb Go.Proofs.Yteigcddmbpfahaa.Pa

theorem C_one {w : World} {ad : Addr} {x : Int} (h : w.cell? ad = some (.int .i64 x)) : Kd.C (Kd.int .i64) w (some ad) [x].length [x] :=
  ⟨rfl, by simp, fun _ => ⟨ad, rfl, fun j p hj => by
    cases j with
    | zero =>
      simp at hj
      subst hj
      exact ⟨[.int .i64 x], rfl, rfl, fun i u hu => by
        cases i with
        | zero => simp at hu; subst hu; show w.cell? (ad.add (0 * 1 + 0)) = _; simpa [Addr.add] using h
        | succ i => simp at hu⟩
    | succ j => simp at hj⟩⟩
structure HitW (w : World) (P lv bu : Int) (A : Option Addr) (c : Nat) (ss : List S58) (A1 : Option Addr) (c1 : Nat) (l : List Int) (W : World) : Prop where
  bx : Blk W w.heap.size #[.int .i64 P, .int .i64 lv, .int .i64 bu, .slice A ss.length c] 43
  si : Kd.C k58 W A ss.length ss
  ch : Kd.C (Kd.int .i64) W A1 l.length l
  bel : Below w.heap.size w W
theorem HitW.below {w : World} {P lv bu : Int} {A : Option Addr} {c : Nat} {ss : List S58} {A1 : Option Addr} {c1 : Nat} {l : List Int} {W W' : World} (h : HitW w P lv bu A c ss A1 c1 l W) (hb : Below W.heap.size W W') : HitW w P lv bu A c ss A1 c1 l W' :=
  ⟨h.bx.below hb h.bx.lt, Kd.C_below h.si hb, Kd.C_below h.ch hb, h.bel.trans (hb.mono h.bel.size)⟩
theorem HitW.cells {w : World} {P lv bu : Int} {A : Option Addr} {c : Nat} {ss : List S58} {A1 : Option Addr} {c1 : Nat} {l : List Int} {W : World} (h : HitW w P lv bu A c ss A1 c1 l W) :
    W.cell? ⟨w.heap.size, 0, none⟩ = some (.int .i64 P) ∧ W.cell? ⟨w.heap.size, 1, none⟩ = some (.int .i64 lv) ∧ W.cell? ⟨w.heap.size, 2, none⟩ = some (.int .i64 bu) ∧ W.cell? ⟨w.heap.size, 3, none⟩ = some (.slice A ss.length c) := by
  have y0 := h.bx.cell 0
  have y1 := h.bx.cell 1
  have y2 := h.bx.cell 2
  have y3 := h.bx.cell 3
  simp at y0 y1 y2 y3
  exact ⟨y0, y1, y2, y3⟩
def hLoops : Code → List Code
  | .loop c => [c]
  | .seq a b => hLoops a ++ hLoops b
  | .block _ c => hLoops c
  | .scope c => hLoops c
  | .cond _ a b => hLoops a ++ hLoops b
  | _ => []
noncomputable def hitBody1 : Code := ((hLoops (Try.f4.body.getD .skip))[0]?).getD .skip
noncomputable def hitBody2 : Code := ((hLoops (Try.f4.body.getD .skip))[1]?).getD .skip
set_option maxRecDepth 100000 in
set_option maxHeartbeats 8000000 in
theorem hits_loop1 (P lv bu : Int) (A : Option Addr) (c : Nat) (ss : List S58) (A1 : Option Addr) (c1 : Nat) (l : List Int) (s : Nat) (w : World) (wd : World) (bo : Nat) (WN AN : Int) {u0 u4 u5 u6 u7 u9 u11 u12 u13 u14 u15 u16 u17 u18 u19 u20 u21 u22 u23 u24 u25 u26 u27 u28 u29 u30 u31 u32 u33 u34 u35 u36 u37 u38 u39 u40 u41 u42 u43 u44 u45 u46 u47 u48 u49 u50 u51 u52 u53 u54 u55 u56 u57 u58 u59 u60 u61 u62 u63 u64 u65 u66 u67 u68 u69 u70 u71 u72 u73 u74 u75 u76 u77 u78 u79 u80 u81 u82 u83 u84 u85 u86 u87 u88 u89 u90 u91 u92 u93 u94 u95 u96 u97 u98 u99 u100 u101 u102 u103 u104 u105 u106 u107 u108 u109 u110 u111 u112 u113 u114 u115 u116 u117 u118 u119 u120 u121 u122 u123 u124 u125 u126 u127 u128 u129 u130 u131 u132 u133 u134 u135 u136 u137 u138 u139 u140 u141 u142 u143 u144 u145 u146 u147 u148 u149 u150 u151 u152 u153 u154 u155 u156 u157 u158 u159 u160 u161 u162 u163 u164 u165 u166 u167 u168 u169 u170 u171 u172 u173 u174 u175 u176 u177 u178 u179 u180 u181 u182 u183 u184 u185 u186 u187 u188 u189 u190 u191 u192 u193 u194 u195 u196 u197 : Value} {Q0 : Exit → Act → World → Prop}
    (HCG : Hid (CampG P lv bu ss s)) (HC0 : Hid (Camp0 P lv bu ss)) (hc : ss.length ≤ c) (HI : Hid (HitW w P lv bu A c ss A1 c1 l wd)) (HO : Hid (Blk wd bo #[.int .i64 WN, .int .i64 AN] 48))
    (HTOP : Hid (∀ k, ChoiceG bu ss k → (1 ≤ oddsA P s ss lv false k ∧ oddsA P s ss lv false k ≤ 1152921504606846976 ∧ 0 ≤ oddsW P s ss lv false k ∧ oddsW P s ss lv false k ≤ oddsA P s ss lv false k) ∧ lessV WN AN (oddsW P s ss lv false k) (oddsA P s ss lv false k) = false))
    (HBEST : Hid (1 ≤ AN ∧ AN ≤ 1152921504606846976 ∧ 0 ≤ WN ∧ WN ≤ AN))
    (hexit : ∀ (y6 y10 y11 y12 y78 y79 y80 y81 y82 y83 y84 y85 y86 y87 y88 y89 y90 y91 y92 y93 y94 y95 y96 y97 y98 y99 y100 y101 y102 y103 y104 y105 y106 y107 y108 y109 : Value) (w' : World), Below wd.heap.size wd w' → Q0 (.exit 0) ⟨#[u0, .slice A1 l.length c1, .int .i64 (s : Int), .pointer (some ⟨w.heap.size, 0, none⟩), u4, u5, y6, u7, .pointer (some ⟨bo, 0, none⟩), u9, y10, y11, y12, u13, u14, u15, u16, u17, u18, u19, u20, u21, u22, u23, u24, u25, u26, u27, u28, u29, u30, u31, u32, u33, u34, u35, u36, u37, u38, u39, u40, u41, u42, u43, u44, u45, u46, u47, u48, u49, u50, u51, u52, u53, u54, u55, u56, u57, u58, u59, u60, u61, u62, u63, u64, u65, u66, u67, u68, u69, u70, u71, u72, u73, u74, u75, u76, u77, y78, y79, y80, y81, y82, y83, y84, y85, y86, y87, y88, y89, y90, y91, y92, y93, y94, y95, y96, y97, y98, y99, y100, y101, y102, y103, y104, y105, y106, y107, y108, y109, u110, u111, u112, u113, u114, u115, u116, u117, u118, u119, u120, u121, u122, u123, u124, u125, u126, u127, u128, u129, u130, u131, u132, u133, u134, u135, u136, u137, u138, u139, u140, u141, u142, u143, u144, u145, u146, u147, u148, u149, u150, u151, u152, u153, u154, u155, u156, u157, u158, u159, u160, u161, u162, u163, u164, u165, u166, u167, u168, u169, u170, u171, u172, u173, u174, u175, u176, u177, u178, u179, u180, u181, u182, u183, u184, u185, u186, u187, u188, u189, u190, u191, u192, u193, u194, u195, u196, u197], []⟩ w') :
    Code.wp Try.prog (Code.loop hitBody1) Q0 ⟨#[u0, .slice A1 l.length c1, .int .i64 (s : Int), .pointer (some ⟨w.heap.size, 0, none⟩), u4, u5, u6, u7, .pointer (some ⟨bo, 0, none⟩), u9, .int .i64 0, u11, u12, u13, u14, u15, u16, u17, u18, u19, u20, u21, u22, u23, u24, u25, u26, u27, u28, u29, u30, u31, u32, u33, u34, u35, u36, u37, u38, u39, u40, u41, u42, u43, u44, u45, u46, u47, u48, u49, u50, u51, u52, u53, u54, u55, u56, u57, u58, u59, u60, u61, u62, u63, u64, u65, u66, u67, u68, u69, u70, u71, u72, u73, u74, u75, u76, u77, u78, u79, u80, u81, u82, u83, u84, u85, u86, u87, u88, u89, u90, u91, u92, u93, u94, u95, u96, u97, u98, u99, u100, u101, u102, u103, u104, u105, u106, u107, u108, u109, u110, u111, u112, u113, u114, u115, u116, u117, u118, u119, u120, u121, u122, u123, u124, u125, u126, u127, u128, u129, u130, u131, u132, u133, u134, u135, u136, u137, u138, u139, u140, u141, u142, u143, u144, u145, u146, u147, u148, u149, u150, u151, u152, u153, u154, u155, u156, u157, u158, u159, u160, u161, u162, u163, u164, u165, u166, u167, u168, u169, u170, u171, u172, u173, u174, u175, u176, u177, u178, u179, u180, u181, u182, u183, u184, u185, u186, u187, u188, u189, u190, u191, u192, u193, u194, u195, u196, u197], []⟩ wd := by
  have HX := Lib.hid hexit
  clear hexit
  have hn8 := HCG.out.n2
  conv => arg 2; arg 1; whnf
  try dsimp only
  go_loopw [10] (fun v10 wr => ∃ i : Nat, v10 = .int .i64 i ∧ i ≤ ss.length ∧ Hid (Below wd.heap.size wd wr)) (fun v10 _ => ss.length - (intOf v10).toNat)
  case atStart => exact ⟨0, rfl, by omega, Lib.hid (Below.refl _ _)⟩
  case round =>
    obtain ⟨i, rfl, hi, HBR⟩ := hrel
    have HIr := Lib.hid (HI.out.below HBR.out)
    obtain ⟨y0, y1, y2, y3⟩ := HIr.out.cells
    by_cases hlt : i < ss.length
    · obtain ⟨wp, hwp⟩ : ∃ wx, wr.alloc (.cells #[.int .i64 (i : Int)] 3 (0, 0)) = wx := ⟨_, rfl⟩
      have hwpb : Below wr.heap.size wr wp := by rw [← hwp]; exact (Below.refl wr.heap.size wr).alloc (Nat.le_refl _) _
      have hwpk : Blk wp wr.heap.size #[.int .i64 (i : Int)] 3 := by rw [← hwp]; exact Blk.new wr _ _
      have HWP := Lib.hid (And.intro hwpb (HIr.out.below hwpb))
      have HL1 := Lib.hid (C_one (x := (i : Int)) (ad := ⟨wr.heap.size, 0, none⟩) (w := wp) (by have := hwpk.cell 0; simpa using this))
      obtain ⟨r, hr, hcall⟩ := choice_w HC0.out (A := A) hc (A1 := some ⟨wr.heap.size, 0, none⟩) (c1 := 1) (l := [(i : Int)]) (by simp) (by simp)
      have HR := Lib.hid hr
      have HCH := Lib.hid hcall
      have hlt2 : (i : Int) < (ss.length : Int) := by omega
      have x0 := kbc hwpb y0
      have x1 := kbc hwpb y1
      have x2 := kbc hwpb y2
      have x3 := kbc hwpb y3
      clear hr hcall hwpb hwpk
      go_wp2_with fail
      clear hwp
      refine (HCH.out _ HWP.out.2.si HL1.out).mono ?_
      rintro e w2 ⟨rfl, hb2⟩
      have HB2 := Lib.hid (HBR.out.trans ((HWP.out.1.trans (hb2.mono HWP.out.1.size)).mono HBR.out.size))
      clear y0 y1 y2 y3 x0 x1 x2 x3 hb2
      cases r
      · go_wp2
        go_roundw
        case rel => exact ⟨i + 1, by go_num, by omega, HB2⟩
        case measure => simp [intOf]; omega
      · have HGI := Lib.hid (HR.out.1 rfl)
        have HI2 := Lib.hid (HI.out.below HB2.out)
        obtain ⟨y0, y1, y2, y3⟩ := HI2.out.cells
        obtain ⟨wq, hwq⟩ : ∃ wx, w2.alloc (.cells #[.int .i64 (i : Int)] 3 (0, 0)) = wx := ⟨_, rfl⟩
        have hwqb : Below w2.heap.size w2 wq := by rw [← hwq]; exact (Below.refl w2.heap.size w2).alloc (Nat.le_refl _) _
        have hwqk : Blk wq w2.heap.size #[.int .i64 (i : Int)] 3 := by rw [← hwq]; exact Blk.new w2 _ _
        have HWQ := Lib.hid (And.intro hwqb (HI2.out.below hwqb))
        have HL2 := Lib.hid (C_one (x := (i : Int)) (ad := ⟨w2.heap.size, 0, none⟩) (w := wq) (by have := hwqk.cell 0; simpa using this))
        have HPO := Lib.hid (fun wx h1 h2 => power_ok P lv bu A c ss s (some ⟨w2.heap.size, 0, none⟩) 1 [(i : Int)] wx HCG.out HGI.out h1 hc h2 (by simp))
        have htop := HTOP.out _ HGI.out
        have x0 := kbc hwqb y0
        have x1 := kbc hwqb y1
        have x2 := kbc hwqb y2
        have x3 := kbc hwqb y3
        generalize oddsW P s ss lv false [(i : Int)] = ow at *
        generalize oddsA P s ss lv false [(i : Int)] = oa at *
        have hoa : decide (oa < 1) = false := decide_eq_false (by omega)
        have hle := less_f HBEST.out.1 HBEST.out.2.1 htop.1.1 htop.1.2.1 HBEST.out.2.2.1 HBEST.out.2.2.2 htop.1.2.2.1 htop.1.2.2.2
        rw [htop.2] at hle
        have HLE := Lib.hid (fun wx => overburdenref09_Less.calls WN AN ow oa false wx hle)
        clear hwqb hwqk htop hle
        go_wp2_with fail
        clear hwq
        refine (HPO.out _ HWQ.out.2.si HL2.out).mono ?_
        rintro e w3 ⟨rfl, hb3⟩
        have HB3 := Lib.hid (HB2.out.trans ((HWQ.out.1.trans (hb3.mono HWQ.out.1.size)).mono HB2.out.size))
        clear y0 y1 y2 y3 x0 x1 x2 x3 hb3
        obtain ⟨wo, hwo⟩ : ∃ wx, w3.alloc (.cells #[.int .i64 ow, .int .i64 oa] 48 (0, 0)) = wx := ⟨_, rfl⟩
        have hwob : Below w3.heap.size w3 wo := by rw [← hwo]; exact (Below.refl w3.heap.size w3).alloc (Nat.le_refl _) _
        have hwok : Blk wo w3.heap.size #[.int .i64 ow, .int .i64 oa] 48 := by rw [← hwo]; exact Blk.new w3 _ _
        have HB4 := Lib.hid (HB3.out.trans (hwob.mono HB3.out.size))
        have p0 := hwok.cell 0
        have p1 := hwok.cell 1
        have hod := HO.out.below HB4.out HO.out.lt
        have q0 := hod.cell 0
        have q1 := hod.cell 1
        simp at p0 p1 q0 q1
        clear hwob hwok hod
        go_wp2_with fail
        refine (HLE.out _).mono ?_
        rintro e w5 ⟨rfl, hb5⟩
        have HB5 := Lib.hid (HB4.out.trans (hb5.mono HB4.out.size))
        clear hb5 hwo p0 p1 q0 q1
        go_wp2
        go_roundw
        case rel => exact ⟨i + 1, by go_num, by omega, HB5⟩
        case measure => simp [intOf]; omega
    · obtain rfl : i = ss.length := by omega
      go_wp2
      exact HX.out _ _ _ _ _ _ _ _ _ _ _ _ _ _ _ _ _ _ _ _ _ _ _ _ _ _ _ _ _ _ _ _ _ _ _ _ _ HBR.out
end Go.Proofs.Yteigcddmbpfahaa.Pure
end
section
namespace Go.Proofs.Yteigcddmbpfahaa.Pure
set_option linter.unusedVariables false
set_option linter.unusedSimpArgs false
open Go.RowKit Go.Proofs.YteigcddmbpfahaaW.PrintWords Go.Proofs.YteigcddmbpfahaaW.PrintLast Go.Proofs.YteigcddmbpfahaaW.PrintMore
open Go.Proofs.Yteigcddmbpfahaa.Cn Go.Proofs.Yteigcddmbpfahaa.Pc Go.Proofs.Yteigcddmbpfahaa.Pb Go.Proofs.Yteigcddmbpfahaa.Pa

theorem prodS_snoc (f : Int → Int) : ∀ (l : List Int) (x : Int), prodS f (l ++ [x]) = prodS f l * f x
  | [], x => by simp [prodS]
  | i :: l, x => by rw [List.cons_append, prodS, prodS, prodS_snoc f l x, Int.mul_assoc]
def ToS (a' : Act) (S : World → Prop) : Exit → Act → World → Prop
  | .normal, x, y => x = a' ∧ S y
  | _, _, _ => False
theorem region_toS {P : Program} {ops : Array Oper} {Q : Exit → Act → World → Prop} {id : Nat} {a a' : Act} {w : World} {S : World → Prop} (h : (Code.region id ops true).wp P (ToS a' S) a w) (hq : ∀ w', S w' → Q .normal a' w') : (Code.region id ops true).wp P Q a w :=
  wp_mono h (fun e x y hh => by
    cases e with
    | normal => obtain ⟨rfl, h2⟩ := hh; exact hq _ h2
    | ret => exact hh.elim
    | exit id => exact hh.elim
    | goto t => exact hh.elim
    | panic ch => exact hh.elim
    | outgrown => exact hh.elim)
set_option maxRecDepth 100000 in
set_option maxHeartbeats 8000000 in
theorem hits_loop2 (P lv bu : Int) (A : Option Addr) (c : Nat) (ss : List S58) (A1 : Option Addr) (c1 : Nat) (l : List Int) (s : Nat) (w : World) (wd : World) {u0 u4 u5 u6 u7 u8 u9 u10 u11 u12 u13 u14 u18 u19 u20 u21 u22 u23 u24 u25 u26 u27 u28 u29 u30 u31 u32 u33 u34 u35 u36 u37 u38 u39 u40 u41 u42 u43 u44 u45 u46 u47 u48 u49 u50 u51 u52 u53 u54 u55 u56 u57 u58 u59 u60 u61 u62 u63 u64 u65 u66 u67 u68 u69 u70 u71 u72 u73 u74 u75 u76 u77 u78 u79 u80 u81 u82 u83 u84 u85 u86 u87 u88 u89 u90 u91 u92 u93 u94 u95 u96 u97 u98 u99 u100 u101 u102 u103 u104 u105 u106 u107 u108 u109 u110 u111 u112 u113 u114 u115 u116 u117 u118 u119 u120 u121 u122 u123 u124 u125 u126 u127 u128 u129 u130 u131 u132 u133 u134 u135 u136 u137 u138 u139 u140 u141 u142 u143 u144 u145 u146 u147 u148 u149 u150 u151 u152 u153 u154 u155 u156 u157 u158 u159 u160 u161 u162 u163 u164 u165 u166 u167 u168 u169 u170 u171 u172 u173 u174 u175 u176 u177 u178 u179 u180 u181 u182 u183 u184 u185 u186 u187 u188 u189 u190 u191 u192 u193 u194 u195 u196 u197 : Value} {Q0 : Exit → Act → World → Prop}
    (HCG : Hid (CampG P lv bu ss s)) (HCH : Hid (ChoiceG bu ss l)) (hc : ss.length ≤ c) (HI : Hid (HitW w P lv bu A c ss A1 c1 l wd))
    (HBS : Hid (∀ j, j ≤ l.length → 0 ≤ prodS (fun i => pw P s - tl1 P s ss i) (l.take j) ∧ prodS (fun i => pw P s - tl1 P s ss i) (l.take j) ≤ 1152921504606846976 ∧ 1 ≤ pw (pw P s) j ∧ pw (pw P s) j ≤ 1152921504606846976))
    (hexit : ∀ (y6 y17 y18 y19 y20 y21 y122 y123 y124 y125 y126 y127 y128 y129 y130 y131 y132 y133 y134 y135 y136 y137 y138 y139 y140 y141 y142 y143 y144 y145 y146 y147 y148 y149 y150 y151 y152 y153 y154 y155 y156 y157 y158 y159 y160 y161 y162 y163 y164 y165 y166 y167 y168 y169 y170 y171 y172 y173 : Value) (w' : World), Below wd.heap.size wd w' → Q0 (.exit 2) ⟨#[u0, .slice A1 l.length c1, .int .i64 (s : Int), .pointer (some ⟨w.heap.size, 0, none⟩), u4, u5, y6, u7, u8, u9, u10, u11, u12, u13, u14, .int .i64 (noHit P s ss l), .int .i64 (pw (pw P s) l.length), y17, y18, y19, y20, y21, u22, u23, u24, u25, u26, u27, u28, u29, u30, u31, u32, u33, u34, u35, u36, u37, u38, u39, u40, u41, u42, u43, u44, u45, u46, u47, u48, u49, u50, u51, u52, u53, u54, u55, u56, u57, u58, u59, u60, u61, u62, u63, u64, u65, u66, u67, u68, u69, u70, u71, u72, u73, u74, u75, u76, u77, u78, u79, u80, u81, u82, u83, u84, u85, u86, u87, u88, u89, u90, u91, u92, u93, u94, u95, u96, u97, u98, u99, u100, u101, u102, u103, u104, u105, u106, u107, u108, u109, u110, u111, u112, u113, u114, u115, u116, u117, u118, u119, u120, u121, y122, y123, y124, y125, y126, y127, y128, y129, y130, y131, y132, y133, y134, y135, y136, y137, y138, y139, y140, y141, y142, y143, y144, y145, y146, y147, y148, y149, y150, y151, y152, y153, y154, y155, y156, y157, y158, y159, y160, y161, y162, y163, y164, y165, y166, y167, y168, y169, y170, y171, y172, y173, u174, u175, u176, u177, u178, u179, u180, u181, u182, u183, u184, u185, u186, u187, u188, u189, u190, u191, u192, u193, u194, u195, u196, u197], []⟩ w') :
    Code.wp Try.prog (Code.loop hitBody2) Q0 ⟨#[u0, .slice A1 l.length c1, .int .i64 (s : Int), .pointer (some ⟨w.heap.size, 0, none⟩), u4, u5, u6, u7, u8, u9, u10, u11, u12, u13, u14, .int .i64 1, .int .i64 1, .int .i64 0, u18, u19, u20, u21, u22, u23, u24, u25, u26, u27, u28, u29, u30, u31, u32, u33, u34, u35, u36, u37, u38, u39, u40, u41, u42, u43, u44, u45, u46, u47, u48, u49, u50, u51, u52, u53, u54, u55, u56, u57, u58, u59, u60, u61, u62, u63, u64, u65, u66, u67, u68, u69, u70, u71, u72, u73, u74, u75, u76, u77, u78, u79, u80, u81, u82, u83, u84, u85, u86, u87, u88, u89, u90, u91, u92, u93, u94, u95, u96, u97, u98, u99, u100, u101, u102, u103, u104, u105, u106, u107, u108, u109, u110, u111, u112, u113, u114, u115, u116, u117, u118, u119, u120, u121, u122, u123, u124, u125, u126, u127, u128, u129, u130, u131, u132, u133, u134, u135, u136, u137, u138, u139, u140, u141, u142, u143, u144, u145, u146, u147, u148, u149, u150, u151, u152, u153, u154, u155, u156, u157, u158, u159, u160, u161, u162, u163, u164, u165, u166, u167, u168, u169, u170, u171, u172, u173, u174, u175, u176, u177, u178, u179, u180, u181, u182, u183, u184, u185, u186, u187, u188, u189, u190, u191, u192, u193, u194, u195, u196, u197], []⟩ wd := by
  have HX := Lib.hid hexit
  clear hexit
  have hn8 := HCG.out.n2
  have hn3 := HCH.out.n3
  conv => arg 2; arg 1; whnf
  try dsimp only
  go_loopw [15, 16, 17] (fun v15 v16 v17 wr => ∃ j : Nat, v15 = .int .i64 (prodS (fun i => pw P s - tl1 P s ss i) (l.take j)) ∧ v16 = .int .i64 (pw (pw P s) j) ∧ v17 = .int .i64 j ∧ j ≤ l.length ∧ Hid (Below wd.heap.size wd wr)) (fun _ _ v17 _ => l.length - (intOf v17).toNat)
  case atStart => exact ⟨0, rfl, rfl, rfl, by omega, Lib.hid (Below.refl _ _)⟩
  case round =>
    obtain ⟨j, rfl, rfl, rfl, hj, HBR⟩ := hrel
    have HIr := Lib.hid (HI.out.below HBR.out)
    obtain ⟨y0, y1, y2, y3⟩ := HIr.out.cells
    by_cases hlt : j < l.length
    · obtain ⟨ad1, hA1, z1⟩ := int_at HIr.out.ch j hlt
      subst hA1
      have hg : l.getD j 0 = l[j] := by simp [List.getD_eq_getElem?_getD, hlt]
      rw [hg] at z1
      obtain ⟨g0, g1⟩ := HCH.out.inS _ (List.getElem_mem hlt)
      have hta := tail_f HCG.out g0 g1
      have htb := tl1_bd HCG.out g0 g1 (LV := 2) (by omega)
      have hbs := HBS.out j hj
      have hbt := HBS.out (j + 1) (by omega)
      have htk : l.take (j + 1) = l.take j ++ [l[j]] := by simp [hlt]
      rw [htk, prodS_snoc, pw] at hbt
      have htw : prodS (fun i => pw P s - tl1 P s ss i) (l.take (j + 1)) = prodS (fun i => pw P s - tl1 P s ss i) (l.take j) * (pw P s - tl1 P s ss l[j]) := by rw [htk, prodS_snoc]
      obtain ⟨ad, hA, q0, q1, q2, q3⟩ := at_T58 HIr.out.si l[j] (by omega) g1
      subst hA
      generalize tl1 P s ss l[j] = tv at *
      have hpe : pw (pw P s) (j + 1) = pw (pw P s) j * pw P s := by rw [pw, Int.mul_comm]
      have hpb := (camp_pw1 HCG.out).1
      have hpt := (camp_pw1 HCG.out).2.1
      generalize l[j] = x at *
      obtain ⟨K, rfl⟩ := Int.eq_ofNat_of_zero_le g0
      simp only [Int.toNat_natCast] at q3
      generalize (rd_T58 ss (K : Int)).f3 = r3 at *
      have HT1 := Lib.hid (fun wx => count_Tail.calls s P r3 1 _ _ wx hta.1)
      have HT0 := Lib.hid (fun wx => count_Tail.calls s P r3 0 _ _ wx hta.2)
      have HEQ := Lib.hid (And.intro htw hpe)
      clear htw hpe hta hg htk
      rw [Int.mul_comm (pw P s)] at hbt
      generalize prodS (fun i => pw P s - tl1 P s ss i) (l.take j) = S0 at *
      generalize pw (pw P s) j = A0 at *
      generalize pw P s = PS at *
      have hlt2 : (j : Int) < (l.length : Int) := by omega
      have HNB := Lib.hid (And.intro hbs (And.intro hbt (And.intro htb (And.intro hpb hpt))))
      clear hbs hbt htb hpb hpt q0 q1 q2
      go_wp2_with fail
      refine' region_toS (S := fun w' => Below wr.heap.size wr w') ?reg1 ?rest1
      case reg1 =>
        refine wp_region_held_drew (S := fun w' => Below wr.heap.size wr w') (by kernel_rfl) (Below.refl wr.heap.size wr).drew (fun hS => ?_)
        refine tk1 0 (.int .i64 (s : Int)) rfl (fun w' hSw => by go_simp) hS ?_
        try simp only [Act.put, xg0, xg1, xg2, xs0, xs1, xs2]
        refine tk1 1 (.pointer (some ⟨w.heap.size, 0, none⟩)) rfl (fun w' hSw => by go_simp) hS ?_
        try simp only [Act.put, xg0, xg1, xg2, xs0, xs1, xs2]
        refine tk1 2 (.int .i64 P) rfl (fun w' hSw => by have z := kbc hSw y0; go_simp) hS ?_
        try simp only [Act.put, xg0, xg1, xg2, xs0, xs1, xs2]
        refine tk1 3 (.pointer (some ⟨w.heap.size, 3, none⟩)) rfl (fun w' hSw => by go_simp) hS ?_
        try simp only [Act.put, xg0, xg1, xg2, xs0, xs1, xs2]
        refine tk1 4 (.slice (some ad) ss.length c) rfl (fun w' hSw => by have z := kbc hSw y3; go_simp) hS ?_
        try simp only [Act.put, xg0, xg1, xg2, xs0, xs1, xs2]
        refine tk1 5 (.slice (some ad1) l.length c1) rfl (fun w' hSw => by go_simp) hS ?_
        try simp only [Act.put, xg0, xg1, xg2, xs0, xs1, xs2]
        refine tk1 6 (.int .i64 (j : Int)) rfl (fun w' hSw => by go_simp) hS ?_
        try simp only [Act.put, xg0, xg1, xg2, xs0, xs1, xs2]
        refine tk1 7 (.pointer (some (ad1.add j))) rfl (fun w' hSw => by go_simp) hS ?_
        try simp only [Act.put, xg0, xg1, xg2, xs0, xs1, xs2]
        refine tk1 8 (.int .i64 (K : Int)) rfl (fun w' hSw => by have z := kbc hSw z1; go_simp) hS ?_
        try simp only [Act.put, xg0, xg1, xg2, xs0, xs1, xs2]
        refine tk1 9 (.pointer (some (ad.add (K * 4)))) rfl (fun w' hSw => by go_simp) hS ?_
        try simp only [Act.put, xg0, xg1, xg2, xs0, xs1, xs2]
        refine tk1 10 (.pointer (some ⟨(ad.add (K * 4)).block, (ad.add (K * 4)).off + 3, none⟩)) rfl (fun w' hSw => by go_simp) hS ?_
        try simp only [Act.put, xg0, xg1, xg2, xs0, xs1, xs2]
        refine tk1 11 (.int .i64 r3) rfl (fun w' hSw => by have z := kbc hSw q3; go_simp) hS ?_
        try simp only [Act.put, xg0, xg1, xg2, xs0, xs1, xs2]
        refine wpAnyH_ready (rs := [12]) (by kernel_rfl) (by simp) ?_
        refine AllReadyH.cons (o := _) rfl (fun K' hK => ?_) AllReadyH.nil
        go_simp
        refine (HT1.out _).mono ?_
        rintro e2 w2 ⟨rfl, hb2⟩
        go_wp2_with fail
        refine hK.out _ _ (hS.trans (hb2.mono hS.size)) (fun hS => ?_)
        clear hK K'
        try simp only [Act.put, xg0, xg1, xg2, xs0, xs1, xs2]
        refine tk1 13 (.tuple #[.int .i64 tv, .int .i64 0]) rfl (fun w' hSw => by go_simp) hS ?_
        try simp only [Act.put, xg0, xg1, xg2, xs0, xs1, xs2]
        refine tk1 14 (.int .i64 tv) rfl (fun w' hSw => by go_simp) hS ?_
        try simp only [Act.put, xg0, xg1, xg2, xs0, xs1, xs2]
        refine tk1 15 (.int .i64 0) rfl (fun w' hSw => by go_simp) hS ?_
        try simp only [Act.put, xg0, xg1, xg2, xs0, xs1, xs2]
        refine tk1 16 (.int .i64 tv) rfl (fun w' hSw => by go_simp) hS ?_
        try simp only [Act.put, xg0, xg1, xg2, xs0, xs1, xs2]
        refine tk1 17 (.int .i64 0) rfl (fun w' hSw => by go_simp) hS ?_
        try simp only [Act.put, xg0, xg1, xg2, xs0, xs1, xs2]
        refine wpAnyH_done (by kernel_rfl) ?_ _
        exact ⟨rfl, hS⟩
      case rest1 =>
        intro w5 hb5
        have HB5 := Lib.hid (HBR.out.trans (hb5.mono HBR.out.size))
        have y0' := kbc hb5 y0
        have y3' := kbc hb5 y3
        have z1' := kbc hb5 z1
        have q3' := kbc hb5 q3
        clear y0 y1 y2 y3 z1 q3 hb5
        go_wp2_with fail
        refine' region_toS (S := fun w' => Below w5.heap.size w5 w') ?reg0 ?rest0
        case reg0 =>
          refine wp_region_held_drew (S := fun w' => Below w5.heap.size w5 w') (by kernel_rfl) (Below.refl w5.heap.size w5).drew (fun hS => ?_)
          refine tk1 0 (.int .i64 (s : Int)) rfl (fun w' hSw => by go_simp) hS ?_
          try simp only [Act.put, xg0, xg1, xg2, xs0, xs1, xs2]
          refine tk1 1 (.pointer (some ⟨w.heap.size, 0, none⟩)) rfl (fun w' hSw => by go_simp) hS ?_
          try simp only [Act.put, xg0, xg1, xg2, xs0, xs1, xs2]
          refine tk1 2 (.int .i64 P) rfl (fun w' hSw => by have z := kbc hSw y0'; go_simp) hS ?_
          try simp only [Act.put, xg0, xg1, xg2, xs0, xs1, xs2]
          refine tk1 3 (.pointer (some ⟨w.heap.size, 3, none⟩)) rfl (fun w' hSw => by go_simp) hS ?_
          try simp only [Act.put, xg0, xg1, xg2, xs0, xs1, xs2]
          refine tk1 4 (.slice (some ad) ss.length c) rfl (fun w' hSw => by have z := kbc hSw y3'; go_simp) hS ?_
          try simp only [Act.put, xg0, xg1, xg2, xs0, xs1, xs2]
          refine tk1 5 (.slice (some ad1) l.length c1) rfl (fun w' hSw => by go_simp) hS ?_
          try simp only [Act.put, xg0, xg1, xg2, xs0, xs1, xs2]
          refine tk1 6 (.int .i64 (j : Int)) rfl (fun w' hSw => by go_simp) hS ?_
          try simp only [Act.put, xg0, xg1, xg2, xs0, xs1, xs2]
          refine tk1 7 (.pointer (some (ad1.add j))) rfl (fun w' hSw => by go_simp) hS ?_
          try simp only [Act.put, xg0, xg1, xg2, xs0, xs1, xs2]
          refine tk1 8 (.int .i64 (K : Int)) rfl (fun w' hSw => by have z := kbc hSw z1'; go_simp) hS ?_
          try simp only [Act.put, xg0, xg1, xg2, xs0, xs1, xs2]
          refine tk1 9 (.pointer (some (ad.add (K * 4)))) rfl (fun w' hSw => by go_simp) hS ?_
          try simp only [Act.put, xg0, xg1, xg2, xs0, xs1, xs2]
          refine tk1 10 (.pointer (some ⟨(ad.add (K * 4)).block, (ad.add (K * 4)).off + 3, none⟩)) rfl (fun w' hSw => by go_simp) hS ?_
          try simp only [Act.put, xg0, xg1, xg2, xs0, xs1, xs2]
          refine tk1 11 (.int .i64 r3) rfl (fun w' hSw => by have z := kbc hSw q3'; go_simp) hS ?_
          try simp only [Act.put, xg0, xg1, xg2, xs0, xs1, xs2]
          refine wpAnyH_ready (rs := [12]) (by kernel_rfl) (by simp) ?_
          refine AllReadyH.cons (o := _) rfl (fun K' hK => ?_) AllReadyH.nil
          go_simp
          refine (HT0.out _).mono ?_
          rintro e2 w2 ⟨rfl, hb2⟩
          go_wp2_with fail
          refine hK.out _ _ (hS.trans (hb2.mono hS.size)) (fun hS => ?_)
          clear hK K'
          try simp only [Act.put, xg0, xg1, xg2, xs0, xs1, xs2]
          refine tk1 13 (.tuple #[.int .i64 PS, .int .i64 0]) rfl (fun w' hSw => by go_simp) hS ?_
          try simp only [Act.put, xg0, xg1, xg2, xs0, xs1, xs2]
          refine tk1 14 (.int .i64 PS) rfl (fun w' hSw => by go_simp) hS ?_
          try simp only [Act.put, xg0, xg1, xg2, xs0, xs1, xs2]
          refine tk1 15 (.int .i64 0) rfl (fun w' hSw => by go_simp) hS ?_
          try simp only [Act.put, xg0, xg1, xg2, xs0, xs1, xs2]
          refine tk1 16 (.int .i64 PS) rfl (fun w' hSw => by go_simp) hS ?_
          try simp only [Act.put, xg0, xg1, xg2, xs0, xs1, xs2]
          refine tk1 17 (.int .i64 0) rfl (fun w' hSw => by go_simp) hS ?_
          try simp only [Act.put, xg0, xg1, xg2, xs0, xs1, xs2]
          refine wpAnyH_done (by kernel_rfl) ?_ _
          exact ⟨rfl, hS⟩
        case rest0 =>
          intro w6 hb6
          have HB6 := Lib.hid (HB5.out.trans (hb6.mono HB5.out.size))
          clear y0' y3' z1' q3' hb6
          obtain ⟨hbs, hbt, htb, hpb, hpt⟩ := HNB.out
          have hsub : wrap64 (PS - tv) = PS - tv := wrap_id (by omega) (by omega)
          have hm1 : wrap64 (S0 * (PS - tv)) = S0 * (PS - tv) := wrap_id (by omega) (by omega)
          have hm2 : wrap64 (A0 * PS) = A0 * PS := wrap_id (by omega) (by omega)
          clear hbs hbt htb hpb hpt
          go_wp2
          go_roundw
          case rel => exact ⟨j + 1, by rw [HEQ.out.1, hm1], by rw [HEQ.out.2, hm2], by go_num, by omega, HB6⟩
          case measure => simp [intOf]; omega
    · obtain rfl : j = l.length := by omega
      rw [List.take_length]
      clear y0 y1 y2 y3
      go_wp2
      exact HX.out _ _ _ _ _ _ _ _ _ _ _ _ _ _ _ _ _ _ _ _ _ _ _ _ _ _ _ _ _ _ _ _ _ _ _ _ _ _ _ _ _ _ _ _ _ _ _ _ _ _ _ _ _ _ _ _ _ _ _ HBR.out
end Go.Proofs.Yteigcddmbpfahaa.Pure
end
section
namespace Go.Proofs.Yteigcddmbpfahaa.Pure
set_option linter.unusedVariables false
set_option linter.unusedSimpArgs false
open Go.RowKit Go.Proofs.YteigcddmbpfahaaW.PrintWords Go.Proofs.YteigcddmbpfahaaW.PrintLast Go.Proofs.YteigcddmbpfahaaW.PrintMore
open Go.Proofs.Yteigcddmbpfahaa.Cn Go.Proofs.Yteigcddmbpfahaa.Pc Go.Proofs.Yteigcddmbpfahaa.Pb Go.Proofs.Yteigcddmbpfahaa.Pa

theorem alloc_below' {w w' : World} {o : Obj} (h : Below (w.alloc o).heap.size (w.alloc o) w') : Below w.heap.size w w' := ((Below.refl w.heap.size w).alloc (Nat.le_refl _) o).trans (h.mono (by simp))
theorem hit_best {P lv bu : Int} {ss : List S58} {s : Nat} (h : CampG P lv bu ss s) {st : BSt} (hst : bestOf P s ss lv (cwholeV P s).1 (choicesL ss bu) = st) :
    (st.best = [] → ∀ k, ¬ ChoiceG bu ss k) ∧ (∀ k, ChoiceG bu ss k → 1 ≤ oddsA P s ss lv false k ∧ oddsA P s ss lv false k ≤ 1152921504606846976 ∧ 0 ≤ oddsW P s ss lv false k ∧ oddsW P s ss lv false k ≤ oddsA P s ss lv false k) ∧
    (st.best ≠ [] → (1 ≤ st.a ∧ st.a ≤ 1152921504606846976 ∧ 0 ≤ st.w ∧ st.w ≤ st.a) ∧ ∀ k, ChoiceG bu ss k → lessV st.w st.a (oddsW P s ss lv false k) (oddsA P s ss lv false k) = false) := by
  have ht := best_top' h
  rw [hst] at ht
  have hodd : ∀ k, ChoiceG bu ss k → 1 ≤ oddsA P s ss lv false k ∧ oddsA P s ss lv false k ≤ 1152921504606846976 ∧ 0 ≤ oddsW P s ss lv false k ∧ oddsW P s ss lv false k ≤ oddsA P s ss lv false k := fun k hk => by
    have o := odds_ok h hk
    obtain ⟨e1, e2, e3⟩ := hits_law h hk
    refine ⟨o.a1, o.a2, e3, ?_⟩
    have hnn : 0 ≤ noHit P s ss k := (prodS_mono (f := fun i => pw P s - tl1 P s ss i) (g := fun i => pw P s - tl1 P s ss i) k (fun i hi => by
      obtain ⟨a, b, c⟩ := tl1_bd h (hk.inS i hi).1 (hk.inS i hi).2 (LV := 2) (by omega)
      exact ⟨by omega, Int.le_refl _⟩)).1
    rw [e1]
    omega
  have hne : ∀ k, k ∈ choicesL ss bu → st.best ≠ [] := fun k hk hb => by
    have hL : choicesL ss bu ≠ [] := fun e => by rw [e] at hk; cases hk
    have := (choices_mem ss bu _).1 (ht.mem hL).1
    rw [hb] at this
    have := this.n1
    simp at this
  refine ⟨fun hb k hk => hne k ((choices_mem ss bu k).2 hk) hb, hodd, fun hb => ?_⟩
  have hL : choicesL ss bu ≠ [] := fun e => hb (ht.none e).1
  obtain ⟨m1, m2, m3, m4⟩ := ht.mem hL
  have hcb := (choices_mem ss bu _).1 m1
  refine ⟨by rw [m2, m3]; exact hodd _ hcb, fun k hk => ?_⟩
  rcases hlv : lessV st.w st.a (oddsW P s ss lv false k) (oddsA P s ss lv false k) with _ | _
  · rfl
  · rw [m2, m3] at hlv
    have h1 := (less_T h hcb hk).1 hlv
    have h2 := (ht.top k ((choices_mem ss bu k).2 hk)).1
    omega
theorem hit_bs {P lv bu : Int} {ss : List S58} {s : Nat} (h : CampG P lv bu ss s) {l : List Int} (hl : ChoiceG bu ss l) :
    ∀ j, j ≤ l.length → 0 ≤ prodS (fun i => pw P s - tl1 P s ss i) (l.take j) ∧ prodS (fun i => pw P s - tl1 P s ss i) (l.take j) ≤ 1152921504606846976 ∧ 1 ≤ pw (pw P s) j ∧ pw (pw P s) j ≤ 1152921504606846976 := by
  intro j hj
  obtain ⟨w1, w2, w3, w4, w5⟩ := camp_pw1 h
  have hm := pw_mono (D := pw P s) w1 (show j ≤ 3 by have := hl.n3; omega)
  have hp := pw_pos (D := pw P s) w1 j
  have hq := prodS_mono (f := fun i => pw P s - tl1 P s ss i) (g := fun _ => pw P s) (l.take j) (fun i hi => by
    have hi2 := List.mem_of_mem_take hi
    obtain ⟨a, b, c⟩ := tl1_bd h (hl.inS i hi2).1 (hl.inS i hi2).2 (LV := 2) (by omega)
    exact ⟨by omega, by omega⟩)
  have he : prodS (fun _ => pw P s) (l.take j) = pw (pw P s) j := by
    have : ∀ m : List Int, prodS (fun _ => pw P s) m = pw (pw P s) m.length := fun m => by
      induction m with
      | nil => rfl
      | cons x m ih => rw [prodS, ih, List.length_cons, pw]
    rw [this, List.length_take, Nat.min_eq_left hj]
  rw [he] at hq
  omega
set_option maxRecDepth 100000 in
set_option maxHeartbeats 8000000 in
theorem hits_main (P lv bu : Int) (A : Option Addr) (c : Nat) (ss : List S58) (A1 : Option Addr) (c1 : Nat) (l : List Int) (s : Nat) (w : World) (hr : Kd.C k58 w A ss.length ss) (hc : ss.length ≤ c) (hr1 : Kd.C (Kd.int .i64) w A1 l.length l) (hc1 : l.length ≤ c1) (g0 : P ≤ 8) (g1 : (ss.length : Int) ≤ 8) (g2 : (l.length : Int) ≤ 10) (g3 : s ≤ 2) (hcam : Camp0 P lv bu ss) (hwh : (cwholeV P s).2 = true) :
    Calls Try.prog 4 #[.agg #[.int .i64 P, .int .i64 lv, .int .i64 bu, .slice A ss.length c], .slice A1 l.length c1, .int .i64 (s : Int)] w fun e w' => e = .returned (.bool true) ∧ Below w.heap.size w w' := by
  have hg := camp0_G (s := s) hcam hwh
  obtain ⟨w1, w2, w3, w4, w5⟩ := camp_pw1 hg
  have hNp := pw_pos (D := pw P s) w1 3
  have HG := Lib.hid hg
  have HC0 := Lib.hid hcam
  have hl0 := Kd.C_max hr
  have hl1 := Kd.C_max hr1
  obtain ⟨st, hst⟩ : ∃ st, bestOf P s ss lv (cwholeV P s).1 (choicesL ss bu) = st := ⟨_, rfl⟩
  have HBT := Lib.hid (hit_best hg hst)
  have HCA := Lib.hid (fun wx h => camp_w (P := P) (lv := lv) (bu := bu) (A := A) (c := c) (ss := ss) (by omega) hc wx h)
  rw [decide_eq_true hcam] at HCA
  have HLO := Lib.hid (fun wx => rlong_calls P lv bu A c ss.length s wx hcam.1 hcam.2.1)
  rw [hwh] at HLO
  have HBE := Lib.hid (fun wx h => best_ok P lv bu A c ss s _ wx HG.out h hc rfl (by omega) (by omega) (fun k hk => odds_ok HG.out hk))
  rw [hst] at HBE
  obtain ⟨r, hr2, hcall⟩ := choice_w hcam (A := A) hc (A1 := A1) (c1 := c1) (l := l) (by omega) hc1
  have HCH := Lib.hid hcall
  have HR := Lib.hid hr2
  have q0 : decide (8 < P) = false := decide_eq_false (by omega)
  have q1 : decide (8 < (ss.length : Int)) = false := decide_eq_false (by omega)
  have q2 : decide (10 < (l.length : Int)) = false := decide_eq_false (by omega)
  have q3 : decide ((s : Int) < 0) = false := decide_eq_false (by omega)
  have q4 : decide (2 < (s : Int)) = false := decide_eq_false (by omega)
  obtain ⟨wa, hwa⟩ : ∃ wa, w.alloc (.cells #[.int .i64 P, .int .i64 lv, .int .i64 bu, .slice A ss.length c] 43 (0, 0)) = wa := ⟨_, rfl⟩
  have hia : HitW w P lv bu A c ss A1 c1 l wa := by
    have hb : Below w.heap.size w wa := by rw [← hwa]; exact (Below.refl w.heap.size w).alloc (Nat.le_refl _) _
    exact ⟨by rw [← hwa]; exact Blk.new w _ _, Kd.C_below hr hb, Kd.C_below hr1 hb, hb⟩
  have HIA := Lib.hid hia
  obtain ⟨y0, y1, y2, y3⟩ := hia.cells
  clear hg hst hcall hr2 hr hr1 hia w1 w2 w3 w4 w5 hNp hwh g0 g1 g2 g3 hcam
  go_enter Try.func4, Try.ntmps4
  go_wp2_with fail
  clear hwa
  refine (HCA.out _ HIA.out.si).mono ?_
  rintro e w2 ⟨rfl, hb2⟩
  have HI2 := Lib.hid (HIA.out.below hb2)
  clear y0 y1 y2 y3 hb2
  obtain ⟨y0, y1, y2, y3⟩ := HI2.out.cells
  go_wp2_with fail
  refine (HLO.out _).mono ?_
  rintro e w3 ⟨rfl, hb3⟩
  have HI3 := Lib.hid (HI2.out.below hb3)
  clear y0 y1 y2 y3 hb3
  obtain ⟨y0, y1, y2, y3⟩ := HI3.out.cells
  go_wp2_with fail
  refine (HBE.out _ HI3.out.si).mono ?_
  rintro e w4 (⟨hbe, rfl, hb4⟩ | ⟨hbe, adb, cb, rfl, hkb, hcb, hb4⟩)
  · have HI4 := Lib.hid (HI3.out.below hb4)
    have hno : ¬ ChoiceG bu ss l := HBT.out.1 hbe l
    have hrf : r = false := by cases r; rfl; exact absurd (HR.out.1 rfl) hno
    subst hrf
    clear y0 y1 y2 y3 hb4 hno hbe
    obtain ⟨y0, y1, y2, y3⟩ := (HI4.out.below ((Below.refl w4.heap.size w4).alloc (Nat.le_refl _) (.cells #[.int .i64 0, .int .i64 0] 48 (0, 0)))).cells
    go_wp2_with fail
    refine (HCH.out _ (Kd.C_alloc HI4.out.si _) (Kd.C_alloc HI4.out.ch _)).mono ?_
    rintro e w5 ⟨rfl, hb5⟩
    have HI5 := Lib.hid (HI4.out.below (alloc_below' hb5))
    clear y0 y1 y2 y3 hb5
    go_wp2_with (go_at_call 8; refine (known20_w _).mono ?_; rintro e w9 ⟨rfl, hb9⟩; have HBEL := Lib.hid hb9; clear hb9)
    go_ret
    exact ⟨rfl, HI5.out.bel.trans (HBEL.out.mono HI5.out.bel.size)⟩
  · obtain ⟨hbest, htop⟩ := HBT.out.2.2 hbe
    have HBEST := Lib.hid hbest
    have HTOP := Lib.hid (fun k hk => And.intro (HBT.out.2.1 k hk) (htop k hk))
    have hal : decide (st.a < 1) = false := decide_eq_false (by omega)
    have HI4 := Lib.hid (HI3.out.below hb4)
    clear y0 y1 y2 y3 hb4 htop hbest hkb hcb hbe
    obtain ⟨wo, hwo⟩ : ∃ wx, w4.alloc (.cells #[.int .i64 st.w, .int .i64 st.a] 48 (0, 0)) = wx := ⟨_, rfl⟩
    have hok : Blk wo w4.heap.size #[.int .i64 st.w, .int .i64 st.a] 48 := by rw [← hwo]; exact Blk.new w4 _ _
    have hio : HitW w P lv bu A c ss A1 c1 l wo := HI4.out.below (by rw [← hwo]; exact (Below.refl w4.heap.size w4).alloc (Nat.le_refl _) _)
    have HIO := Lib.hid hio
    have HOK := Lib.hid hok
    have p0 := hok.cell 0
    have p1 := hok.cell 1
    simp at p0 p1
    obtain ⟨y0, y1, y2, y3⟩ := hio.cells
    clear hio hok
    go_wp2_with fail
    clear hwo y0 y1 y2 y3 p0 p1
    refine hits_loop1 P lv bu A c ss A1 c1 l s w wo w4.heap.size st.w st.a HG HC0 hc HIO HOK HTOP HBEST ?_
    intros
    rename_i w5 hb5
    have HI5 := Lib.hid (HIO.out.below hb5)
    clear hb5 hal
    obtain ⟨y0, y1, y2, y3⟩ := HI5.out.cells
    go_wp2_with fail
    refine (HCH.out _ HI5.out.si HI5.out.ch).mono ?_
    rintro e w6 ⟨rfl, hb6⟩
    have HI6 := Lib.hid (HI5.out.below hb6)
    clear y0 y1 y2 y3 hb6
    obtain ⟨y0, y1, y2, y3⟩ := HI6.out.cells
    cases r
    · go_wp2_with (go_at_call 8; refine (known20_w _).mono ?_; rintro e w9 ⟨rfl, hb9⟩; have HBEL := Lib.hid hb9; clear hb9)
      go_ret
      exact ⟨rfl, HI6.out.bel.trans (HBEL.out.mono HI6.out.bel.size)⟩
    · have HGL := Lib.hid (HR.out.1 rfl)
      have HPO := Lib.hid (fun wx h1 h2 => power_ok P lv bu A c ss s A1 c1 l wx HG.out HGL.out h1 hc h2 hc1)
      have HBS := Lib.hid (hit_bs HG.out HGL.out)
      have hlaw := hits_law HG.out HGL.out
      have hodd := HBT.out.2.1 _ HGL.out
      generalize oddsW P s ss lv false l = ow at *
      generalize oddsA P s ss lv false l = oa at *
      have HLAW := Lib.hid (And.intro hlaw hodd)
      clear hlaw hodd
      go_wp2_with fail
      refine (HPO.out _ HI6.out.si HI6.out.ch).mono ?_
      rintro e w7 ⟨rfl, hb7⟩
      have HI7 := Lib.hid (HI6.out.below hb7)
      clear y0 y1 y2 y3 hb7
      obtain ⟨wp, hwp⟩ : ∃ wx, w7.alloc (.cells #[.int .i64 ow, .int .i64 oa] 48 (0, 0)) = wx := ⟨_, rfl⟩
      have hok : Blk wp w7.heap.size #[.int .i64 ow, .int .i64 oa] 48 := by rw [← hwp]; exact Blk.new w7 _ _
      have HIP := Lib.hid (HI7.out.below (show Below w7.heap.size w7 wp by rw [← hwp]; exact (Below.refl w7.heap.size w7).alloc (Nat.le_refl _) _))
      have HOP := Lib.hid hok
      clear hok
      go_wp2_with fail
      clear hwp
      refine hits_loop2 P lv bu A c ss A1 c1 l s w wp HG HGL hc HIP HBS ?_
      intros
      rename_i w8 hb8
      have HI8 := Lib.hid (HIP.out.below hb8)
      have hbo := HOP.out.below hb8 HOP.out.lt
      have p0 := hbo.cell 0
      have p1 := hbo.cell 1
      simp at p0 p1
      have hbs := HBS.out l.length (Nat.le_refl _)
      rw [List.take_length] at hbs
      obtain ⟨⟨e1, e2, e3⟩, e4, e5, e6, e7⟩ := HLAW.out
      generalize hAN : pw (pw P s) l.length = AN at *
      unfold noHit at *
      generalize hSN : prodS (fun i => pw P s - tl1 P s ss i) l = SN at *
      subst e1
      have hsub : wrap64 (oa - SN) = oa - SN := wrap_id (by omega) (by omega)
      have hle : decide (ow ≤ oa - SN) = true := decide_eq_true e2
      have hge : decide (0 ≤ ow) = true := decide_eq_true e3
      clear hb8 hbo hbs e2 e3 e4 e5 e6 e7
      go_wp2_with (go_at_call 8; refine (known20_w _).mono ?_; rintro e w9 ⟨rfl, hb9⟩; have HBEL := Lib.hid hb9; clear hb9)
      go_ret
      exact ⟨rfl, HI8.out.bel.trans (HBEL.out.mono HI8.out.bel.size)⟩
end Go.Proofs.Yteigcddmbpfahaa.Pure
end
section
namespace Go.Proofs.Yteigcddmbpfahaa.Pure
set_option linter.unusedVariables false
set_option linter.unusedSimpArgs false
open Go.RowKit Go.Proofs.YteigcddmbpfahaaW.PrintWords Go.Proofs.YteigcddmbpfahaaW.PrintLast Go.Proofs.YteigcddmbpfahaaW.PrintMore
open Go.Proofs.Yteigcddmbpfahaa.Cn Go.Proofs.Yteigcddmbpfahaa.Pc Go.Proofs.Yteigcddmbpfahaa.Pb Go.Proofs.Yteigcddmbpfahaa.Pa

theorem hits_walk (P lv bu : Int) (A : Option Addr) (c : Nat) (ss : List S58) (A1 : Option Addr) (c1 : Nat) (l : List Int) (slots : Int) (w : World)
    (hr : Kd.C k58 w A ss.length ss) (hc : ss.length ≤ c) (hr1 : Kd.C (Kd.int .i64) w A1 l.length l) (hc1 : l.length ≤ c1) :
    Calls Try.prog 4 #[.agg #[.int .i64 P, .int .i64 lv, .int .i64 bu, .slice A ss.length c], .slice A1 l.length c1, .int .i64 slots] w fun e w' => e = .returned (.bool true) ∧ Below w.heap.size w w' := by
  rcases Classical.em (P ≤ 8 ∧ (ss.length : Int) ≤ 8 ∧ (l.length : Int) ≤ 10 ∧ 0 ≤ slots ∧ slots ≤ 2 ∧ Camp0 P lv bu ss ∧ (cwholeV P slots.toNat).2 = true) with h | h
  · obtain ⟨h1, h2, h3, h4, h5, h6, h7⟩ := h
    obtain ⟨s, rfl⟩ := Int.eq_ofNat_of_zero_le h4
    rw [Int.toNat_natCast] at h7
    exact hits_main P lv bu A c ss A1 c1 l s w hr hc hr1 hc1 h1 h2 h3 (by omega) h6 h7
  · exact hits_guards P lv bu A c ss A1 c1 l slots w hr hc hr1 hc1 h
end Go.Proofs.Yteigcddmbpfahaa.Pure
end
