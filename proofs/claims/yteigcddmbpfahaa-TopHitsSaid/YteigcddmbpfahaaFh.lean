import Derived.Test.YteigcddmbpfahaaFg
import Derived.Test.YteigcddmbpfahaaTk
set_option linter.unusedVariables false
set_option linter.unusedSimpArgs false
namespace Go.Proofs.Yteigcddmbpfahaa.Cn
set_option linter.unusedVariables false
open Go.RowKit Go.Proofs.YteigcddmbpfahaaW.PrintWords Go.Proofs.YteigcddmbpfahaaW.PrintLast Go.Proofs.YteigcddmbpfahaaW.PrintMore

theorem look_empty {P : Program} {w : World} {m : Nat} {t kt et : TypeId} {n : Int} {z : Value} (ht : P.underlying t = some (.map kt et)) (hk : P.underlying kt = some (.int .i64)) (hz : (zeroValue et).run P w = .ok z w) (h : EMap w m) :
    (Instr.lookup t (.map (some m)) (.int .i64 n) true).run P w = .ok (.tuple #[z, .bool false]) w := by
  have hf : Instr.findNow (.int .i64) (.int .i64 n) ([] : List MapEntry) 0 = some none := rfl
  have hc : (Instr.checkKey true 10000 kt (.int .i64 n)).run P w = .ok () w := MapKept.run_checkKey (k := .int .i64 n) hk (by simp [MapKept.IsKey]) true 9999
  simp [Instr.lookup, run_underlying ht, MapKept.run_getObj_map h.1, hc, MapKept.run_findKey hk hf, hz, Result.andThen]
def mapped (w : World) (m : Nat) (n : Int) (v : Value) : World := { w with heap := w.heap.setIfInBounds m (.map #[{ key := .int .i64 n, val := v, born := 0 }] 1) }
theorem upd_empty {P : Program} {w : World} {m : Nat} {t kt et : TypeId} {n : Int} (v : Value) (ht : P.underlying t = some (.map kt et)) (hk : P.underlying kt = some (.int .i64)) (h : EMap w m) :
    (Instr.mapUpdate t (.map (some m)) (.int .i64 n) v).run P w = .ok () (mapped w m n v) := by
  have hf : Instr.findNow (.int .i64) (.int .i64 n) ([] : List MapEntry) 0 = some none := rfl
  have hc : (Instr.checkKey false 10000 kt (.int .i64 n)).run P w = .ok () w := MapKept.run_checkKey (k := .int .i64 n) hk (by simp [MapKept.IsKey]) false 9999
  simp [Instr.mapUpdate, run_underlying ht, MapKept.run_getObj_map h.1, hc, MapKept.run_findKey hk hf, MapKept.run_setObj_map _ h.1, Result.andThen, mapped]
theorem Blk.mapped {w : World} {b m : Nat} {cs : Array Value} {t : TypeId} (h : Blk w b cs t) (hm : b ≠ m) (n : Int) (v : Value) : Blk (mapped w m n v) b cs t := by
  unfold Blk Cn.mapped at *
  simp only
  rw [Array.getElem?_setIfInBounds_ne (by omega)]
  exact h
theorem below_mapped {w0 w : World} {B m : Nat} (h : Below B w0 w) (hm : B ≤ m) (n : Int) (v : Value) : Below B w0 (mapped w m n v) :=
  h.trans ⟨rfl, rfl, rfl, by simp [mapped], fun k hk => by simp only [mapped]; rw [Array.getElem?_setIfInBounds_ne (by omega)]⟩
theorem zero_span (w : World) : (zeroValue 24).run Try.prog w = .ok (.agg #[.int .i64 0, .int .i64 0]) w := by
  simp [go_sem]

def expL (bins : List (List S102)) (lt : List S66) (k op : Int) : Int := aboveL (rd_L3 bins k) (thrL lt op) (thrH lt op)
def expH (bins : List (List S102)) (lt : List S66) (k op : Int) : Int := aboveH (rd_L3 bins k) (thrL lt op)
set_option maxRecDepth 100000 in
set_option maxHeartbeats 4000000 in
theorem f_expected (b m : Nat) (A : Option Addr) (c : Nat) (bins : List (List S102)) (P b0 b1 a0 a1 : Int) (At : Option Addr) (ct : Nat) (lt : List S66) (k op : Int) (B : Nat) (w : World)
    (hb : Blk w b #[.int .i64 P, .slice A bins.length c, .int .i64 b0, .int .i64 b1, .int .i64 a0, .int .i64 a1, .slice At lt.length ct, .map (some m)] 107) (hm : EMap w m) (hbm : b ≠ m) (hB1 : B ≤ m) (hB : B ≤ w.heap.size)
    (hr : Kd.C (Kd.slice 102 k102) w A bins.length bins) (hg : SkyG P bins b0 b1 a0 a1) (hrt : Kd.C k66 w At lt.length lt) (hgt : RngG lt) (hk0 : 0 ≤ k) (hk1 : k < bins.length) :
    Calls Try.prog 29 #[.pointer (some ⟨b, 0, none⟩), .int .i64 k, .int .i64 op] w fun e w' => e = .returned (.agg #[.int .i64 (expL bins lt k op), .int .i64 (expH bins lt k op)]) ∧ Below B w w' := by
  have HML := Lib.hid hm.2
  have HC := Lib.hid hr
  have HCt := Lib.hid hrt
  have HG := Lib.hid hg
  have HGt := Lib.hid hgt
  obtain ⟨K, rfl⟩ := Int.eq_ofNat_of_zero_le hk0
  obtain ⟨L, hL⟩ : ∃ L, L = expL bins lt K op := ⟨_, rfl⟩
  obtain ⟨H, hH⟩ : ∃ H, H = expH bins lt K op := ⟨_, rfl⟩
  rw [← hL, ← hH]
  have HL := Lib.hid hL
  have HH := Lib.hid hH
  clear hr hrt hg hgt hL hH
  obtain ⟨wa, hwa⟩ : ∃ wa, w.alloc (.cells #[.int .i64 0, .int .i64 0] 24 (0, 0)) = wa := ⟨_, rfl⟩
  have hba : Blk wa b #[.int .i64 P, .slice A bins.length c, .int .i64 b0, .int .i64 b1, .int .i64 a0, .int .i64 a1, .slice At lt.length ct, .map (some m)] 107 := by rw [← hwa]; exact hb.alloc _
  have hma : EMap wa m := by rw [← hwa]; exact hm.alloc _
  have hra : Blk wa w.heap.size #[.int .i64 0, .int .i64 0] 24 := by rw [← hwa]; exact Blk.new _ _ _
  have hlook := look_empty (P := Try.prog) (t := 105) (n := op) Try.underlying105 Try.underlying3 (zero_span wa) hma
  have y1 := hba.cell 1
  have y6 := hba.cell 6
  have y7 := hba.cell 7
  simp at y1 y6 y7
  have hwa1 : Below w.heap.size w wa := by rw [← hwa]; exact (Below.refl w.heap.size w).alloc (Nat.le_refl _) _
  have hsz : wa.heap.size = w.heap.size + 1 := by rw [← hwa]; simp
  obtain ⟨ad, A0, c0, hA, x1, hc0, hC0⟩ := at_L3 (Kd.C_below HC.out hwa1) (K : Int) (by omega) (by omega)
  subst hA
  simp only [Int.toNat_natCast] at x1
  obtain ⟨n1, n2, hm1, -⟩ := HG.out.bin K (by omega)
  have hL := HL.out
  have hH := HH.out
  unfold expL at hL
  unfold expH at hH
  have HTH := Lib.hid (fun wx h => f_threshold At ct lt op wx h HGt.out)
  generalize thrL lt op = tl at *
  generalize thrH lt op = th at *
  generalize rd_L3 bins (K : Int) = l at *
  have HAB := Lib.hid (fun wx h => f_above A0 c0 l tl th wx h n1 n2)
  rw [← hL, ← hH] at HAB
  have HC0 := Lib.hid hC0
  have HBA := Lib.hid hba
  have HMA := Lib.hid hma
  have HRA := Lib.hid hra
  have HWA := Lib.hid hwa1
  have HSZ := Lib.hid hsz
  have hkl : (K : Int) < (bins.length : Int) := hk1
  clear hL hH hC0 hba hma hra hwa1 hm1 hb hm hsz hk1 HL HH
  go_enter Try.func29, Try.ntmps29
  go_wp2_with fail
  clear hwa
  refine wp_region_held_drew (S := fun w' => Below wa.heap.size wa w' ∧ ∃ x y : Value, Blk w' wa.heap.size #[x, y] 24) (by kernel_rfl) ⟨((Below.refl wa.heap.size wa).alloc (Nat.le_refl _) _).drew, _, _, (Blk.new wa _ _).drew⟩ (fun hS => ?_)
  refine tk1 0 (.pointer (some ⟨b, 0, none⟩)) rfl (fun w' hSw => by have z1 := cell_kb hSw.1 y1; have z6 := cell_kb hSw.1 y6; have zx := cell_kb hSw.1 x1; go_simp) hS ?_
  try simp only [Act.put, xg0, xg1, xg2, xs0, xs1, xs2]
  refine tk1 1 (.pointer (some ⟨b, 0, none⟩)) rfl (fun w' hSw => by have z1 := cell_kb hSw.1 y1; have z6 := cell_kb hSw.1 y6; have zx := cell_kb hSw.1 x1; go_simp) hS ?_
  try simp only [Act.put, xg0, xg1, xg2, xs0, xs1, xs2]
  refine tk1 2 (.pointer (some ⟨b, 0, none⟩)) rfl (fun w' hSw => by have z1 := cell_kb hSw.1 y1; have z6 := cell_kb hSw.1 y6; have zx := cell_kb hSw.1 x1; go_simp) hS ?_
  try simp only [Act.put, xg0, xg1, xg2, xs0, xs1, xs2]
  refine tk1 3 (.pointer (some ⟨b, 1, none⟩)) rfl (fun w' hSw => by have z1 := cell_kb hSw.1 y1; have z6 := cell_kb hSw.1 y6; have zx := cell_kb hSw.1 x1; go_simp) hS ?_
  try simp only [Act.put, xg0, xg1, xg2, xs0, xs1, xs2]
  refine tk1 4 (.slice (some ad) bins.length c) rfl (fun w' hSw => by have z1 := cell_kb hSw.1 y1; have z6 := cell_kb hSw.1 y6; have zx := cell_kb hSw.1 x1; go_simp) hS ?_
  try simp only [Act.put, xg0, xg1, xg2, xs0, xs1, xs2]
  refine tk1 5 (.int .i64 (K : Int)) rfl (fun w' hSw => by have z1 := cell_kb hSw.1 y1; have z6 := cell_kb hSw.1 y6; have zx := cell_kb hSw.1 x1; go_simp) hS ?_
  try simp only [Act.put, xg0, xg1, xg2, xs0, xs1, xs2]
  refine tk1 6 (.pointer (some (ad.add K))) rfl (fun w' hSw => by have z1 := cell_kb hSw.1 y1; have z6 := cell_kb hSw.1 y6; have zx := cell_kb hSw.1 x1; go_simp) hS ?_
  try simp only [Act.put, xg0, xg1, xg2, xs0, xs1, xs2]
  refine tk1 7 (.slice A0 l.length c0) rfl (fun w' hSw => by have z1 := cell_kb hSw.1 y1; have z6 := cell_kb hSw.1 y6; have zx := cell_kb hSw.1 x1; go_simp) hS ?_
  try simp only [Act.put, xg0, xg1, xg2, xs0, xs1, xs2]
  refine tk1 8 (.pointer (some ⟨b, 0, none⟩)) rfl (fun w' hSw => by have z1 := cell_kb hSw.1 y1; have z6 := cell_kb hSw.1 y6; have zx := cell_kb hSw.1 x1; go_simp) hS ?_
  try simp only [Act.put, xg0, xg1, xg2, xs0, xs1, xs2]
  refine tk1 9 (.pointer (some ⟨b, 0, none⟩)) rfl (fun w' hSw => by have z1 := cell_kb hSw.1 y1; have z6 := cell_kb hSw.1 y6; have zx := cell_kb hSw.1 x1; go_simp) hS ?_
  try simp only [Act.put, xg0, xg1, xg2, xs0, xs1, xs2]
  refine tk1 10 (.pointer (some ⟨b, 6, none⟩)) rfl (fun w' hSw => by have z1 := cell_kb hSw.1 y1; have z6 := cell_kb hSw.1 y6; have zx := cell_kb hSw.1 x1; go_simp) hS ?_
  try simp only [Act.put, xg0, xg1, xg2, xs0, xs1, xs2]
  refine tk1 11 (.slice At lt.length ct) rfl (fun w' hSw => by have z1 := cell_kb hSw.1 y1; have z6 := cell_kb hSw.1 y6; have zx := cell_kb hSw.1 x1; go_simp) hS ?_
  try simp only [Act.put, xg0, xg1, xg2, xs0, xs1, xs2]
  refine tk1 12 (.int .i64 op) rfl (fun w' hSw => by have z1 := cell_kb hSw.1 y1; have z6 := cell_kb hSw.1 y6; have zx := cell_kb hSw.1 x1; go_simp) hS ?_
  try simp only [Act.put, xg0, xg1, xg2, xs0, xs1, xs2]
  refine wpAnyH_ready (rs := [13]) (by kernel_rfl) (by simp) ?_
  refine AllReadyH.cons (o := _) rfl (fun K' hK => ?_) AllReadyH.nil
  go_simp
  refine (HTH.out _ (Kd.C_below HCt.out (HWA.out.trans (hS.1.mono HWA.out.size)))).mono ?_
  rintro e2 w2 ⟨rfl, hb2⟩
  go_wp2_with fail
  obtain ⟨hS1, vx, vy, hS2⟩ := hS
  refine hK.out _ _ ⟨hS1.trans (hb2.mono hS1.size), vx, vy, hS2.below hb2 hS2.lt⟩ (fun hS => ?_)
  clear hK K' hb2 hS1 hS2
  try simp only [Act.put, xg0, xg1, xg2, xs0, xs1, xs2]
  refine wpAnyH_ready (rs := [14]) (by kernel_rfl) (by simp) ?_
  refine AllReadyH.cons (o := _) rfl (fun K' hK => ?_) AllReadyH.nil
  go_simp
  refine (HAB.out _ (Kd.C_below HC0.out hS.1)).mono ?_
  rintro e3 w3 ⟨rfl, hb3⟩
  go_wp2_with fail
  obtain ⟨hS1, wx, wy, hS2⟩ := hS
  have hS3 := hS2.below hb3 hS2.lt
  have hS4 := hS1.trans (hb3.mono hS1.size)
  refine hK.out _ _ ⟨hS4, wx, wy, hS3⟩ (fun hS => ?_)
  clear hK K' hb3 hS1 hS2
  try simp only [Act.put, xg0, xg1, xg2, xs0, xs1, xs2]
  refine wpAnyH_ready (rs := [15]) (by kernel_rfl) (by simp) ?_
  refine AllReadyH.cons (o := _) rfl (fun K' hK => ?_) AllReadyH.nil
  have q0 := hS3.cell 0
  have q1 := hS3.cell 1
  have r0 := hS3.free 0
  have r1 := hS3.free 1
  simp at q0 q1
  go_simp
  obtain ⟨wb, hwb⟩ : ∃ wb, (w3.setCell ⟨wa.heap.size, 0, none⟩ (.int .i64 L)).setCell ⟨wa.heap.size, 1, none⟩ (.int .i64 H) = wb := ⟨_, rfl⟩
  rw [hwb]
  have hB5 : Blk wb wa.heap.size #[.int .i64 L, .int .i64 H] 24 := by
    rw [← hwb]
    have := (hS3.setCell 0 (.int .i64 L)).setCell 1 (.int .i64 H)
    simpa using this
  have hW5 : Below wa.heap.size wa wb := by rw [← hwb]; exact (hS4.setCell (p := ⟨wa.heap.size, 0, none⟩) (Nat.le_refl _) _).setCell (p := ⟨wa.heap.size, 1, none⟩) (Nat.le_refl _) _
  refine hK.out _ _ ⟨hW5, _, _, hB5⟩ (fun hS => ?_)
  clear hK K' hS3 hS4 q0 q1 r0 r1 hwb
  try simp only [Act.put, xg0, xg1, xg2, xs0, xs1, xs2]
  refine wpAnyH_done (by kernel_rfl) ?_ _
  have HB5 := Lib.hid hB5
  have HW5 := Lib.hid hW5
  clear hS hB5 hW5 y1 y6 y7 x1 hlook
  go_wp2_with fail
  have hmb : EMap wb m := HMA.out.below HW5.out
  have hbb := HBA.out.below HW5.out HBA.out.lt
  have hrb := HRA.out.below HW5.out HRA.out.lt
  have hupd := upd_empty (P := Try.prog) (w := wb.drew) (t := 105) (n := op) (.agg #[.int .i64 L, .int .i64 H]) Try.underlying105 Try.underlying3 hmb
  have hwB : Below B w wb := (HWA.out.trans (HW5.out.mono HWA.out.size)).mono hB
  refine wp_region_held_drew (S := fun w' => Below B w w' ∧ Blk w' b #[.int .i64 P, .slice (some ad) bins.length c, .int .i64 b0, .int .i64 b1, .int .i64 a0, .int .i64 a1, .slice At lt.length ct, .map (some m)] 107 ∧ Blk w' w.heap.size #[.int .i64 0, .int .i64 0] 24 ∧ Blk w' wa.heap.size #[.int .i64 L, .int .i64 H] 24) (by kernel_rfl) ⟨hwB.drew, hbb.drew, hrb.drew, HB5.out.drew⟩ (fun hS => ?_)
  refine tk1 0 (.pointer (some ⟨b, 0, none⟩)) rfl (fun w' hSw => by have z7 := hSw.2.1.cell 7; have u0 := hSw.2.2.2.cell 0; have u1 := hSw.2.2.2.cell 1; simp at z7 u0 u1; go_simp) hS ?_
  try simp only [Act.put, xg0, xg1, xg2, xs0, xs1, xs2]
  refine tk1 1 (.pointer (some ⟨b, 0, none⟩)) rfl (fun w' hSw => by have z7 := hSw.2.1.cell 7; have u0 := hSw.2.2.2.cell 0; have u1 := hSw.2.2.2.cell 1; simp at z7 u0 u1; go_simp) hS ?_
  try simp only [Act.put, xg0, xg1, xg2, xs0, xs1, xs2]
  refine tk1 2 (.pointer (some ⟨b, 7, none⟩)) rfl (fun w' hSw => by have z7 := hSw.2.1.cell 7; have u0 := hSw.2.2.2.cell 0; have u1 := hSw.2.2.2.cell 1; simp at z7 u0 u1; go_simp) hS ?_
  try simp only [Act.put, xg0, xg1, xg2, xs0, xs1, xs2]
  refine tk1 3 (.map (some m)) rfl (fun w' hSw => by have z7 := hSw.2.1.cell 7; have u0 := hSw.2.2.2.cell 0; have u1 := hSw.2.2.2.cell 1; simp at z7 u0 u1; go_simp) hS ?_
  try simp only [Act.put, xg0, xg1, xg2, xs0, xs1, xs2]
  refine tk1 4 (.int .i64 op) rfl (fun w' hSw => by have z7 := hSw.2.1.cell 7; have u0 := hSw.2.2.2.cell 0; have u1 := hSw.2.2.2.cell 1; simp at z7 u0 u1; go_simp) hS ?_
  try simp only [Act.put, xg0, xg1, xg2, xs0, xs1, xs2]
  refine tk1 5 (.agg #[.int .i64 L, .int .i64 H]) rfl (fun w' hSw => by have z7 := hSw.2.1.cell 7; have u0 := hSw.2.2.2.cell 0; have u1 := hSw.2.2.2.cell 1; simp at z7 u0 u1; go_simp) hS ?_
  try simp only [Act.put, xg0, xg1, xg2, xs0, xs1, xs2]
  refine wpAnyH_ready (rs := [6]) (by kernel_rfl) (by simp) ?_
  refine AllReadyH.cons (o := _) rfl (fun K' hK => ?_) AllReadyH.nil
  go_simp
  obtain ⟨wc, hwc⟩ : ∃ wc, mapped wb.drew m op (.agg #[.int .i64 L, .int .i64 H]) = wc := ⟨_, rfl⟩
  rw [hwc]
  have s1 : Below B w wc := by rw [← hwc]; exact below_mapped hwB.drew hB1 _ _
  have s2 : Blk wc b #[.int .i64 P, .slice (some ad) bins.length c, .int .i64 b0, .int .i64 b1, .int .i64 a0, .int .i64 a1, .slice At lt.length ct, .map (some m)] 107 := by rw [← hwc]; exact hbb.drew.mapped hbm _ _
  have s3 : Blk wc w.heap.size #[.int .i64 0, .int .i64 0] 24 := by rw [← hwc]; exact hrb.drew.mapped (by have := HML.out; omega) _ _
  have s4 : Blk wc wa.heap.size #[.int .i64 L, .int .i64 H] 24 := by rw [← hwc]; exact HB5.out.drew.mapped (by have := HML.out; have := HSZ.out; omega) _ _
  refine hK.out _ _ ⟨s1, s2, s3, s4⟩ (fun hS => ?_)
  clear hK K' hwc hupd hmb hbb hrb hwB
  try simp only [Act.put, xg0, xg1, xg2, xs0, xs1, xs2]
  refine wpAnyH_done (by kernel_rfl) ?_ _
  have u0 := s4.cell 0
  have u1 := s4.cell 1
  have t0 := s3.cell 0
  have t1 := s3.cell 1
  have v0 := s3.free 0
  have v1 := s3.free 1
  simp at u0 u1 t0 t1
  have S1 := Lib.hid s1
  have S3 := Lib.hid s3
  clear hS s1 s2 s3 s4
  go_wp2
  have hbF := (S3.out.setCell 0 (.int .i64 L)).setCell 1 (.int .i64 H)
  simp only [List.setIfInBounds_toArray, List.set_cons_zero, List.set_cons_succ] at hbF
  refine bodyPost_ret (results_cell_row rfl _ _ w.heap.size 24 _ (0, 0) _ rfl hbF Try.underlying24 rfl (by kernel_rfl)) rfl ?_
  exact ⟨rfl, (S1.out.setCell (p := ⟨w.heap.size, 0, none⟩) hB _).setCell (p := ⟨w.heap.size, 1, none⟩) hB _⟩
end Go.Proofs.Yteigcddmbpfahaa.Cn
