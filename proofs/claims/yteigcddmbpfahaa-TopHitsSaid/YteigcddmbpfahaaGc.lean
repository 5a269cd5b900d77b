import Derived.Test.YteigcddmbpfahaaGb
namespace Go.Proofs.Yteigcddmbpfahaa.Cn
set_option linter.unusedVariables false
set_option linter.unusedSimpArgs false
open Go.RowKit Go.Proofs.YteigcddmbpfahaaW.PrintWords Go.Proofs.YteigcddmbpfahaaW.PrintLast Go.Proofs.YteigcddmbpfahaaW.PrintMore Go.Proofs.Yteigcddmbpfahaa.Pc
def oddsG (P sl : Int) (ss : List S58) (lv : Int) (e : Bool) : List Int → Int → Int → Int × Int
  | [], a, s => (a, s)
  | i :: l, a, s => oddsG P sl ss lv e l (wrap64 (a * (chK P sl ss (i, lv, e)).2.2.2.1)) (wrap64 (s * wrap64 ((chK P sl ss (i, lv, e)).2.2.2.1 - (chK P sl ss (i, lv, e)).2.1)))
def oddsW (P sl : Int) (ss : List S58) (lv : Int) (e : Bool) (l : List Int) : Int := wrap64 ((oddsG P sl ss (lv * l.length) e l 1 1).1 - (oddsG P sl ss (lv * l.length) e l 1 1).2)
def oddsA (P sl : Int) (ss : List S58) (lv : Int) (e : Bool) (l : List Int) : Int := (oddsG P sl ss (lv * l.length) e l 1 1).1

theorem int_at {w : World} {A : Option Addr} {n : Nat} {xs : List Int} (h : Kd.C (Kd.int .i64) w A n xs) (j : Nat) (hj : j < n) : ∃ ad, A = some ad ∧ w.cell? (ad.add j) = some (.int .i64 (xs.getD j 0)) := by
  obtain ⟨ad, c, e, _, hK, hc⟩ := Kd.C_get h 0 (j : Int) (by omega) (by omega)
  have hc1 : c = [.int .i64 (xs.getD j 0)] := by
    have h2 : c = [.int .i64 (xs.getD (j : Int).toNat 0)] := hK
    rwa [Int.toNat_natCast] at h2
  have := hc 0 _ (by rw [hc1]; rfl)
  refine ⟨ad, e, ?_⟩
  have e1 : ((j : Int).toNat * (Kd.int .i64).sz + 0) = j := by
    rw [Int.toNat_natCast]; show j * 1 + 0 = j; omega
  rwa [e1] at this
set_option maxRecDepth 100000 in
set_option maxHeartbeats 4000000 in
theorem odds_calls (b m : Nat) (P lv bu : Int) (A : Option Addr) (c : Nat) (ss : List S58) (sl : Int) (L : List ((Int × Int × Bool) × Value)) (A1 : Option Addr) (c1 : Nat) (l : List Int) (e : Bool) (w : World)
    (ht : Tel w b m P lv bu A c ss sl L) (hr : Kd.C k58 w A ss.length ss) (hr1 : Kd.C (Kd.int .i64) w A1 l.length l) (hl3 : l.length ≤ 3) (hlv0 : 0 ≤ lv) (hlv1 : lv ≤ 300000)
    (hl : ∀ i ∈ l, 0 ≤ i ∧ i < ss.length) :
    Calls Try.prog 45 #[.pointer (some ⟨b, 0, none⟩), .slice A1 l.length c1, .bool e] w fun x w' => x = .returned (.agg #[.int .i64 (oddsW P sl ss lv e l), .int .i64 (oddsA P sl ss lv e l)]) ∧ But m w w' ∧ ∃ L', Tel w' b m P lv bu A c ss sl L' := by
  have HT := Lib.hid ht
  have HC := Lib.hid hr
  have HC1 := Lib.hid hr1
  have HL := Lib.hid hl
  have H0 := Lib.hid (show oddsG P sl ss (lv * l.length) e (l.drop 0) 1 1 = oddsG P sl ss (lv * l.length) e l 1 1 from rfl)
  unfold oddsW oddsA
  generalize oddsG P sl ss (lv * l.length) e l 1 1 = R at *
  have hml0 : (0 : Int) ≤ lv * (l.length : Int) := Int.mul_nonneg hlv0 (by omega)
  have hml1 : lv * (l.length : Int) ≤ 900000 := by
    have := Int.mul_le_mul hlv1 (show (l.length : Int) ≤ 3 by omega) (by omega) (by omega)
    omega
  obtain ⟨wa, hwa⟩ : ∃ wa, w.alloc (.cells #[.int .i64 0, .int .i64 0] 48 (0, 0)) = wa := ⟨_, rfl⟩
  have hb6 : Blk wa w.heap.size #[.int .i64 0, .int .i64 0] 48 := by rw [← hwa]; exact Blk.new w _ _
  have hwb : Below w.heap.size w wa := by rw [← hwa]; exact (Below.refl w.heap.size w).alloc (Nat.le_refl _) _
  have HB6 := Lib.hid hb6
  have HT1 := Lib.hid (ht.below hwb)
  have HW := Lib.hid hwb
  clear ht hr hr1 hl hb6 hwb
  go_enter Try.func45, Try.ntmps45
  go_wp2_with fail
  clear hwa
  go_loopw [7, 8, 14] (fun v7 v8 v14 wr => ∃ (j : Nat) (a s : Int) (L1 : List ((Int × Int × Bool) × Value)), v7 = .int .i64 a ∧ v8 = .int .i64 s ∧ v14 = .int .i64 j ∧ j ≤ l.length ∧ Hid (oddsG P sl ss (lv * l.length) e (l.drop j) a s = R) ∧ Hid (Tel wr b m P lv bu A c ss sl L1) ∧ Hid (But m wa wr)) (fun _ _ v14 _ => l.length - (intOf v14).toNat)
  case atStart => exact ⟨0, 1, 1, L, rfl, rfl, rfl, by omega, H0, HT1, Lib.hid (But.refl m wa)⟩
  case round =>
    obtain ⟨j, a, s, L1, rfl, rfl, rfl, hj, HR, HTr, HBr⟩ := hrel
    by_cases hlt : j < l.length
    · have hR := HR.out
      rw [List.drop_eq_getElem_cons hlt, oddsG] at hR
      obtain ⟨ad, hA, z1⟩ := int_at (ints_but HBr.out HT1.out.map (Kd.C_below HC1.out HW.out)) j hlt
      subst hA
      have hg : l.getD j 0 = l[j] := by simp [List.getD_eq_getElem?_getD, hlt]
      rw [hg] at z1
      obtain ⟨g0, g1⟩ := HL.out _ (List.getElem_mem hlt)
      have HCH := Lib.hid (chances_calls b m P lv bu A c ss sl L1 l[j] (lv * l.length) e wr HTr.out (sites_but HBr.out HT1.out.map (Kd.C_below HC.out HW.out)) g0 g1)
      unfold chV at HCH
      generalize (chK P sl ss (l[j], lv * (l.length : Int), e)).1 = k1 at *
      generalize (chK P sl ss (l[j], lv * (l.length : Int), e)).2.1 = k2 at *
      generalize (chK P sl ss (l[j], lv * (l.length : Int), e)).2.2.1 = k3 at *
      generalize (chK P sl ss (l[j], lv * (l.length : Int), e)).2.2.2.1 = k4 at *
      generalize l[j] = x at *
      have HR2 := Lib.hid hR
      have y1 := HTr.out.blk.cell 1
      simp at y1
      have hlt2 : (j : Int) < (l.length : Int) := by omega
      clear HR hR hg
      go_wp2_with fail
      refine HCH.out.mono ?_
      rintro e2 w2 ⟨rfl, hb2, L2, hT2⟩
      have HT2 := Lib.hid hT2
      have HB2 := Lib.hid (HBr.out.trans hb2)
      clear hT2 hb2 y1 z1
      go_wp2
      go_roundw
      case rel =>
        refine ⟨j + 1, _, _, L2, rfl, rfl, by go_num, by omega, HR2, Lib.hid (HT2.out.below ?_), Lib.hid (HB2.out.then_below (n := w2.heap.size) ?_ HB2.out.size)⟩
        all_goals repeat (first | exact Below.refl _ _ | refine Below.setCell ?_ (by simp) _ | refine Below.alloc ?_ (by simp) _)
      case measure => simp [intOf]; omega
    · have hR := HR.out
      rw [List.drop_of_length_le (by omega), oddsG] at hR
      have HR2 := Lib.hid hR
      clear HR hR
      have HB6r := Lib.hid (HBr.out.blk HB6.out (by have := HTr.out.map.lt; have := HT.out.map.lt; omega))
      have t0 := HB6r.out.cell 0
      have t1 := HB6r.out.cell 1
      have v0 := HB6r.out.free 0
      have v1 := HB6r.out.free 1
      simp at t0 t1
      go_wp2
      have hbF := (HB6r.out.setCell 0 (.int .i64 (wrap64 (a - s)))).setCell 1 (.int .i64 a)
      simp only [List.setIfInBounds_toArray, List.set_cons_zero, List.set_cons_succ] at hbF
      refine bodyPost_ret (results_cell_row rfl _ _ w.heap.size 48 _ (0, 0) _ rfl hbF Try.underlying48 rfl (by kernel_rfl)) rfl ?_
      rw [← HR2.out]
      have hf : Below w.heap.size wr ((wr.setCell ⟨w.heap.size, 0, none⟩ (.int .i64 (wrap64 (a - s)))).setCell ⟨w.heap.size, 1, none⟩ (.int .i64 a)) := ((Below.refl _ wr).setCell (p := ⟨w.heap.size, 0, none⟩) (Nat.le_refl _) _).setCell (p := ⟨w.heap.size, 1, none⟩) (Nat.le_refl _) _
      refine ⟨rfl, ((But.of_below HW.out (Nat.le_refl _)).trans HBr.out).then_below hf (Nat.le_refl _), L1, ⟨?_, ?_, HTr.out.ne, HTr.out.ok⟩⟩
      · exact HTr.out.blk.below hf HT.out.blk.lt
      · exact HTr.out.map.keep (hf.block m HT.out.map.lt)
end Go.Proofs.Yteigcddmbpfahaa.Cn
