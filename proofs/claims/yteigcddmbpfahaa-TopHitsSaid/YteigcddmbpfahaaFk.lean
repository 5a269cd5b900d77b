import Derived.Test.YteigcddmbpfahaaFj
namespace Go.Proofs.Yteigcddmbpfahaa.Cn
set_option linter.unusedVariables false
open Go.RowKit Go.Proofs.YteigcddmbpfahaaW.PrintWords Go.Proofs.YteigcddmbpfahaaW.PrintLast Go.Proofs.YteigcddmbpfahaaW.PrintMore

set_option maxRecDepth 100000 in
set_option maxHeartbeats 4000000 in
theorem expected_go (P : Int) (A : Option Addr) (c : Nat) (bins : List (List S102)) (b0 b1 a0 a1 : Int) (At : Option Addr) (ct : Nat) (lt : List S66) (k op : Int) (w : World)
    (hr : Kd.C (Kd.slice 102 k102) w A bins.length bins) (hc : bins.length ≤ c) (hg : SkyG P bins b0 b1 a0 a1) (hrt : Kd.C k66 w At lt.length lt) (hct : lt.length ≤ ct) (hgt : RngG lt)
    (hk0 : 0 ≤ k) (hk1 : k < bins.length) (ho0 : 0 ≤ op) (ho1 : op ≤ 1000000) :
    Calls Try.prog 9 #[.agg #[.int .i64 P, .slice A bins.length c, .int .i64 b0, .int .i64 b1, .int .i64 a0, .int .i64 a1], .slice At lt.length ct, .int .i64 k, .int .i64 op] w fun e w' => e = .returned (.tuple #[.agg #[.int .i64 (expL bins lt k op), .int .i64 (expH bins lt k op)], .int .i64 0]) ∧ Below w.heap.size w w' := by
  have HC := Lib.hid hr
  have HCt := Lib.hid hrt
  have HG := Lib.hid hg
  have HGt := Lib.hid hgt
  have HK := Lib.hid (And.intro hk0 hk1)
  have HO := Lib.hid (And.intro ho0 ho1)
  generalize hL : expL bins lt k op = L
  generalize hH : expH bins lt k op = H
  have HL := Lib.hid hL
  have HH := Lib.hid hH
  clear hr hrt hg hgt hL hH hk0 hk1 ho0 ho1
  go_enter Try.func9, Try.ntmps9
  go_wp2_with fail
  obtain ⟨wa, hwa⟩ : ∃ wa, (w.alloc (.cells #[.int .i64 P, .slice A bins.length c, .int .i64 b0, .int .i64 b1, .int .i64 a0, .int .i64 a1] 26 (0, 0))).alloc (.cells #[.int .i64 0, .int .i64 0] 24 (0, 0)) = wa := ⟨_, rfl⟩
  rw [hwa]
  have hwb : Below w.heap.size w wa := by rw [← hwa]; exact ((Below.refl w.heap.size w).alloc (Nat.le_refl _) _).alloc (by simp) _
  have hra : Blk wa (w.heap.size + 1) #[.int .i64 0, .int .i64 0] 24 := by
    rw [← hwa]
    have := Blk.new (w.alloc (.cells #[.int .i64 P, .slice A bins.length c, .int .i64 b0, .int .i64 b1, .int .i64 a0, .int .i64 a1] 26 (0, 0))) #[.int .i64 0, .int .i64 0] 24
    simpa using this
  refine (f_below A c bins P b0 b1 a0 a1 At ct lt k op wa (Kd.C_below HC.out hwb) hc HG.out (Kd.C_below HCt.out hwb) hct HGt.out HK.out.1 HK.out.2 HO.out.1 HO.out.2).mono ?_
  rintro e2 w2 ⟨b, m, rfl, hb, hm, hbm, hB, hM, hb2⟩
  have HW2 := Lib.hid (hwb.trans (hb2.mono hwb.size))
  have HR2 := Lib.hid (hra.below hb2 hra.lt)
  have hX := f_expected b m A c bins P b0 b1 a0 a1 At ct lt k op wa.heap.size w2 hB hM hbm hm hb2.size (Kd.C_below HC.out HW2.out) HG.out (Kd.C_below HCt.out HW2.out) HGt.out HK.out.1 HK.out.2
  rw [HL.out, HH.out] at hX
  have HX := Lib.hid hX
  have HSZ := Lib.hid (show w.heap.size + 1 < wa.heap.size by have := hra.lt; exact this)
  have HWA := Lib.hid hwb
  clear hwa hwb hra hb hm hbm hB hM hb2 hX
  go_wp2_with fail
  refine HX.out.mono ?_
  rintro e3 w3 ⟨rfl, hb3⟩
  have HR3 := Lib.hid (HR2.out.below hb3 HSZ.out)
  have HW3 := Lib.hid (show Below w.heap.size w w3 from HW2.out.trans (hb3.mono HWA.out.size))
  clear hb3
  have q0 := HR3.out.cell 0
  have q1 := HR3.out.cell 1
  have r0 := HR3.out.free 0
  have r1 := HR3.out.free 1
  simp at q0 q1
  go_wp2
  have hbF := (HR3.out.setCell 0 (.int .i64 L)).setCell 1 (.int .i64 H)
  simp only [List.setIfInBounds_toArray, List.set_cons_zero, List.set_cons_succ] at hbF
  refine bodyPost_ret (results_ct rfl _ _ (w.heap.size + 1) 24 _ (0, 0) _ rfl hbF Try.underlying24 rfl (by kernel_rfl)) rfl ?_
  exact ⟨rfl, (HW3.out.setCell (p := ⟨w.heap.size + 1, 0, none⟩) (by simp) _).setCell (p := ⟨w.heap.size + 1, 1, none⟩) (by simp) _⟩

instance (P : Int) (bins : List (List S102)) (b0 b1 a0 a1 : Int) : Decidable (SkyG P bins b0 b1 a0 a1) :=
  decidable_of_iff (2 ≤ P ∧ P ≤ 1000000 ∧ 1 ≤ bins.length ∧ bins.length ≤ 20 ∧ (-100 ≤ b0 ∧ b0 ≤ b1 ∧ b1 ≤ 100) ∧ (-100 ≤ a0 ∧ a0 ≤ a1 ∧ a1 ≤ 100) ∧ ∀ k : Nat, k < bins.length → BinG P (rd_L3 bins k))
    ⟨fun ⟨h1, h2, h3, h4, h5, h6, h7⟩ => ⟨h1, h2, h3, h4, h5, h6, h7⟩, fun ⟨h1, h2, h3, h4, h5, h6, h7⟩ => ⟨h1, h2, h3, h4, h5, h6, h7⟩⟩
def flux_Expected.f (P : Int) (bins : List (List S102)) (b0 b1 a0 a1 : Int) (lt : List S66) (k op : Int) : Option (Int × Int × Int) :=
  if SkyG P bins b0 b1 a0 a1 ∧ RngG lt ∧ 0 ≤ k ∧ k < bins.length ∧ 0 ≤ op ∧ op ≤ 1000000 then some (expL bins lt k op, expH bins lt k op, 0) else none
theorem flux_Expected.calls (a0_0 : Int) (A0_1 : Option Addr) (c0_1 : Nat) (l0_1 : List (List S102)) (a0_2 a0_3 a0_4 a0_5 : Int) (A1 : Option Addr) (c1 : Nat) (l1 : List S66) (a2 a3 : Int) (r1 r2 r3 : Int) (w : World)
    (hr0 : Kd.C (Kd.slice 102 k102) w A0_1 l0_1.length l0_1) (hc0 : l0_1.length ≤ c0_1) (hr1 : Kd.C k66 w A1 l1.length l1) (hc1 : l1.length ≤ c1) (h : flux_Expected.f a0_0 l0_1 a0_2 a0_3 a0_4 a0_5 l1 a2 a3 = some (r1, r2, r3)) :
    Calls Try.prog 9 #[.agg #[.int .i64 a0_0, .slice A0_1 l0_1.length c0_1, .int .i64 a0_2, .int .i64 a0_3, .int .i64 a0_4, .int .i64 a0_5], .slice A1 l1.length c1, .int .i64 a2, .int .i64 a3] w fun e w' => e = .returned (.tuple #[.agg #[.int .i64 r1, .int .i64 r2], .int .i64 r3]) ∧ Below w.heap.size w w' := by
  unfold flux_Expected.f at h
  split at h
  · rename_i g
    simp only [Option.some.injEq, Prod.mk.injEq] at h
    obtain ⟨rfl, rfl, rfl⟩ := h
    exact expected_go a0_0 A0_1 c0_1 l0_1 a0_2 a0_3 a0_4 a0_5 A1 c1 l1 a2 a3 w hr0 hc0 g.1 hr1 hc1 g.2.1 g.2.2.1 g.2.2.2.1 g.2.2.2.2.1 g.2.2.2.2.2
  · cases h
end Go.Proofs.Yteigcddmbpfahaa.Cn
