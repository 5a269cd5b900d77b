import Derived.Test.YteigcddmbpfahaaGi
import Derived.Test.YteigcddmbpfahaaTk
namespace Go.Proofs.Yteigcddmbpfahaa.Cn
set_option linter.unusedVariables false
set_option linter.unusedSimpArgs false
open Go.RowKit Go.Proofs.YteigcddmbpfahaaW.PrintWords Go.Proofs.YteigcddmbpfahaaW.PrintLast Go.Proofs.YteigcddmbpfahaaW.PrintMore Go.Proofs.Yteigcddmbpfahaa.Pc
attribute [local go_sem] Oper.semAt_some

def BestDone (B : Nat) (w : World) (P lv bu N : Int) (s : Nat) (ss : List S58) (e : Ending) (w' : World) : Prop :=
  ∃ A' c', e = .returned (.tuple #[.slice A' (bestOf P s ss lv N (choicesL ss bu)).best.length c', .agg #[.int .i64 (bestOf P s ss lv N (choicesL ss bu)).w, .int .i64 (bestOf P s ss lv N (choicesL ss bu)).a]]) ∧
    Kd.C (Kd.int .i64) w' A' (bestOf P s ss lv N (choicesL ss bu)).best.length (bestOf P s ss lv N (choicesL ss bu)).best ∧ (bestOf P s ss lv N (choicesL ss bu)).best.length ≤ c' ∧
    (A' = none → (bestOf P s ss lv N (choicesL ss bu)).best = [] ∧ c' = 0) ∧ ((bestOf P s ss lv N (choicesL ss bu)).best = [] → A' = none) ∧ Below B w w' ∧ ∀ ad, A' = some ad → w.heap.size ≤ ad.block
structure Ahead (w : World) (B b m : Nat) (P lv bu : Int) (A : Option Addr) (c : Nat) (ss : List S58) (s : Nat) (N : Int) (W : World) : Prop where
  tel : ∃ L, Tel W b m P lv bu A c ss s L
  sites : Kd.C k58 W A ss.length ss
  bx1 : Blk W w.heap.size #[.pointer (some ⟨b, 0, none⟩)] 90
  bxr : Blk W (w.heap.size + 1) #[.int .i64 0, .int .i64 0] 48
  bxa : Blk W (w.heap.size + 1 + 1) #[.int .i64 N] 3
  bel : Below w.heap.size w W
  size : W.heap.size = w.heap.size + 1 + 1 + 1

theorem sites_at {w : World} {A : Option Addr} {ss : List S58} {m : Nat} {L : List ((Int × Int × Bool) × Value)} (hr : Kd.C k58 w A ss.length ss) (hn : 1 ≤ ss.length) (hm : MapAt encS w m L) : ∀ ad, A = some ad → ad.block < w.heap.size ∧ ad.block ≠ m := by
  intro ad e
  obtain ⟨ad', e2, hc, -⟩ := at_T58 hr 0 (by omega) (by omega)
  rw [e] at e2
  cases e2
  have e3 : (ad.add ((0 : Int).toNat * 4)) = ad := by simp [Addr.add]
  rw [e3] at hc
  have hl := World.block_lt_of_cell? w _ hc
  refine ⟨hl, fun e4 => ?_⟩
  obtain ⟨es, ck, h1, -⟩ := hm
  obtain ⟨o, ho, hoc⟩ := cells_of_cell hc
  rw [e4, h1] at ho
  cases ho
  cases hoc

set_option maxRecDepth 100000 in
set_option maxHeartbeats 8000000 in
theorem best_calls (b m : Nat) (P lv bu : Int) (A : Option Addr) (c : Nat) (ss : List S58) (s : Nat) (L : List ((Int × Int × Bool) × Value)) (B : Nat) (N : Int) (w : World)
    (hg : CampG P lv bu ss s) (hc : ss.length ≤ c) (ht : Tel w b m P lv bu A c ss s L) (hr : Kd.C k58 w A ss.length ss) (hB : B ≤ m) (hBb : B ≤ b) (hBw : B ≤ w.heap.size)
    (hN : (cwholeV P s).1 = N) (hN0 : 0 ≤ N) (hN1 : N ≤ 1152921504606846976) (ho : ∀ l, ChoiceG bu ss l → OddsOk P s ss lv N l) :
    Calls Try.prog 41 #[.pointer (some ⟨b, 0, none⟩)] w (BestDone B w P lv bu N s ss) := by
  have HG := Lib.hid hg
  have HT := Lib.hid ht
  have HR := Lib.hid hr
  have HB := Lib.hid (And.intro hB (And.intro hBb hBw))
  have HO := Lib.hid ho
  have HSA := Lib.hid (sites_at hr hg.n1 ht.map)
  have HWH := Lib.hid (fun wx => cwhole_calls P s wx hg.p2 hg.p3)
  rw [hg.wh, hN] at HWH
  obtain ⟨wa, hwa⟩ : ∃ wa, (w.alloc (.cells #[.pointer (some ⟨b, 0, none⟩)] 90 (0, 0))).alloc (.cells #[.int .i64 0, .int .i64 0] 48 (0, 0)) = wa := ⟨_, rfl⟩
  have hb1 : Blk wa w.heap.size #[.pointer (some ⟨b, 0, none⟩)] 90 := by rw [← hwa]; exact (Blk.new w _ _).alloc _
  have hbr : Blk wa (w.heap.size + 1) #[.int .i64 0, .int .i64 0] 48 := by
    rw [← hwa]
    have := Blk.new (w.alloc (.cells #[.pointer (some ⟨b, 0, none⟩)] 90 (0, 0))) #[.int .i64 0, .int .i64 0] 48
    rwa [World.size_alloc] at this
  have hwb : Below w.heap.size w wa := by rw [← hwa]; exact ((Below.refl w.heap.size w).alloc (Nat.le_refl _) _).alloc (by simp) _
  have hsa : wa.heap.size = w.heap.size + 1 + 1 := by rw [← hwa]; simp
  have ht1 := ht.below hwb
  have y0 := ht1.blk.cell 0
  have y4 := ht1.blk.cell 4
  have x1 := hb1.cell 0
  simp at y0 y4 x1
  have HT1 := Lib.hid ht1
  have HB1 := Lib.hid hb1
  have HBR := Lib.hid hbr
  have HW := Lib.hid hwb
  have HSZ := Lib.hid hsa
  clear hg ht hr hB hBb hBw hN ho hb1 hbr hwb hsa ht1
  refine (callsIn_wide (n := 9)).1 (callsIn_of_wp_marks (F := Fence.wide) (n := 9) Try.func41 rfl trivial ?_ rfl)
  refine wpIn_wide.2 ?_
  simp only [Try.ntmps41, List.size_toArray, List.length_cons, List.length_nil, Nat.reduceAdd, Nat.reduceSub, Array.replicate_succ, Array.replicate_zero, List.push_toArray, List.append_toArray, List.nil_append, List.cons_append]
  go_wp2_with fail
  clear hwa
  refine' region_to ?reg ?rest
  case reg =>
    refine wp_region_held_drew (S := fun w' => Below wa.heap.size wa w') (by kernel_rfl) (Below.refl wa.heap.size wa).drew (fun hS => ?_)
    refine tk1 0 (.pointer (some ⟨b, 0, none⟩)) rfl (fun w' hSw => by have z := kbc hSw x1; go_simp) hS ?_
    try simp only [Act.put, xg0, xg1, xg2, xs0, xs1, xs2]
    refine tk1 1 (.pointer (some ⟨b, 0, none⟩)) rfl (fun w' hSw => by have z := kbc hSw y0; go_simp) hS ?_
    try simp only [Act.put, xg0, xg1, xg2, xs0, xs1, xs2]
    refine tk1 2 (.pointer (some ⟨b, 0, none⟩)) rfl (fun w' hSw => by go_simp) hS ?_
    try simp only [Act.put, xg0, xg1, xg2, xs0, xs1, xs2]
    refine tk1 3 (.pointer (some ⟨b, 0, none⟩)) rfl (fun w' hSw => by go_simp) hS ?_
    try simp only [Act.put, xg0, xg1, xg2, xs0, xs1, xs2]
    refine tk1 4 (.int .i64 P) rfl (fun w' hSw => by have z := kbc hSw y0; go_simp) hS ?_
    try simp only [Act.put, xg0, xg1, xg2, xs0, xs1, xs2]
    refine tk1 5 (.pointer (some ⟨b, 0, none⟩)) rfl (fun w' hSw => by have z := kbc hSw x1; go_simp) hS ?_
    try simp only [Act.put, xg0, xg1, xg2, xs0, xs1, xs2]
    refine tk1 6 (.pointer (some ⟨b, 0, none⟩)) rfl (fun w' hSw => by have z := kbc hSw y0; go_simp) hS ?_
    try simp only [Act.put, xg0, xg1, xg2, xs0, xs1, xs2]
    refine tk1 7 (.pointer (some ⟨b, 4, none⟩)) rfl (fun w' hSw => by go_simp) hS ?_
    try simp only [Act.put, xg0, xg1, xg2, xs0, xs1, xs2]
    refine tk1 8 (.int .i64 (s : Int)) rfl (fun w' hSw => by have z := kbc hSw y4; go_simp) hS ?_
    try simp only [Act.put, xg0, xg1, xg2, xs0, xs1, xs2]
    refine wpAnyH_ready (rs := [9, 13]) (by kernel_rfl) (by simp) ?_
    refine AllReadyH.cons (o := _) rfl (fun K' hK => ?_) (AllReadyH.cons (o := _) rfl (fun K' hK => ?_) AllReadyH.nil)
    · go_simp
      refine (HWH.out _).mono ?_
      rintro e2 w2 ⟨rfl, rfl⟩
      go_wp2_with fail
      refine hK.out _ _ hS (fun hS => ?_)
      clear hK K'
      try simp only [Act.put, xg0, xg1, xg2, xs0, xs1, xs2]
      refine tk1 10 (.tuple #[.int .i64 N, .bool true]) rfl (fun w' hSw => by go_simp) hS ?_
      try simp only [Act.put, xg0, xg1, xg2, xs0, xs1, xs2]
      refine tk1 11 (.int .i64 N) rfl (fun w' hSw => by go_simp) hS ?_
      try simp only [Act.put, xg0, xg1, xg2, xs0, xs1, xs2]
      refine tk1 12 (.bool true) rfl (fun w' hSw => by go_simp) hS ?_
      try simp only [Act.put, xg0, xg1, xg2, xs0, xs1, xs2]
      refine wpAnyH_ready (rs := [13]) (by kernel_rfl) (by simp) ?_
      refine AllReadyH.cons (o := _) rfl (fun K' hK => ?_) AllReadyH.nil
      go_simp
      have hbd : Below wa.heap.size wa ((wa.alloc (.cells #[.int .i64 0] 3 (0, 0))).drew) := ((Below.refl wa.heap.size wa).alloc (Nat.le_refl _) _).drew
      have hbx : Blk ((wa.alloc (.cells #[.int .i64 0] 3 (0, 0))).drew) wa.heap.size #[.int .i64 0] 3 := (Blk.new wa _ _).drew
      refine hK.out _ _ hbd (fun hS => ?_)
      clear hK K'
      try simp only [Act.put, xg0, xg1, xg2, xs0, xs1, xs2]
      refine wpAnyH_ready (rs := [14]) (by kernel_rfl) (by simp) ?_
      refine AllReadyH.cons (o := _) rfl (fun K' hK => ?_) AllReadyH.nil
      have q0 := hbx.cell 0
      have f0 := hbx.free 0
      simp at q0
      go_simp
      refine hK.out _ _ (((Below.refl wa.heap.size wa).alloc (Nat.le_refl _) _).drew) (fun hS => ?_)
      clear hK K'
      try simp only [Act.put, xg0, xg1, xg2, xs0, xs1, xs2]
      refine tk1 15 (.bool true) rfl (fun w' hSw => by go_simp) hS ?_
      try simp only [Act.put, xg0, xg1, xg2, xs0, xs1, xs2]
      refine wpAnyH_done (by kernel_rfl) ?_ _
      exact ⟨rfl, rfl⟩
    · go_simp
      have hbd : Below wa.heap.size wa ((wa.alloc (.cells #[.int .i64 0] 3 (0, 0))).drew) := ((Below.refl wa.heap.size wa).alloc (Nat.le_refl _) _).drew
      have hbx : Blk ((wa.alloc (.cells #[.int .i64 0] 3 (0, 0))).drew) wa.heap.size #[.int .i64 0] 3 := (Blk.new wa _ _).drew
      refine hK.out _ _ hbd (fun hS => ?_)
      clear hK K'
      try simp only [Act.put, xg0, xg1, xg2, xs0, xs1, xs2]
      refine wpAnyH_ready (rs := [9]) (by kernel_rfl) (by simp) ?_
      refine AllReadyH.cons (o := _) rfl (fun K' hK => ?_) AllReadyH.nil
      go_simp
      refine (HWH.out _).mono ?_
      rintro e2 w2 ⟨rfl, rfl⟩
      go_wp2_with fail
      refine hK.out _ _ hS (fun hS => ?_)
      clear hK K'
      try simp only [Act.put, xg0, xg1, xg2, xs0, xs1, xs2]
      refine tk1 10 (.tuple #[.int .i64 N, .bool true]) rfl (fun w' hSw => by go_simp) hS ?_
      try simp only [Act.put, xg0, xg1, xg2, xs0, xs1, xs2]
      refine tk1 11 (.int .i64 N) rfl (fun w' hSw => by go_simp) hS ?_
      try simp only [Act.put, xg0, xg1, xg2, xs0, xs1, xs2]
      refine tk1 12 (.bool true) rfl (fun w' hSw => by go_simp) hS ?_
      try simp only [Act.put, xg0, xg1, xg2, xs0, xs1, xs2]
      refine wpAnyH_ready (rs := [14]) (by kernel_rfl) (by simp) ?_
      refine AllReadyH.cons (o := _) rfl (fun K' hK => ?_) AllReadyH.nil
      have q0 := hbx.cell 0
      have f0 := hbx.free 0
      simp at q0
      go_simp
      refine hK.out _ _ (((Below.refl wa.heap.size wa).alloc (Nat.le_refl _) _).drew) (fun hS => ?_)
      clear hK K'
      try simp only [Act.put, xg0, xg1, xg2, xs0, xs1, xs2]
      refine tk1 15 (.bool true) rfl (fun w' hSw => by go_simp) hS ?_
      try simp only [Act.put, xg0, xg1, xg2, xs0, xs1, xs2]
      refine wpAnyH_done (by kernel_rfl) ?_ _
      exact ⟨rfl, rfl⟩
  case rest =>
    have hah : Ahead w B b m P lv bu A c ss s N (wa.alloc (.cells #[.int .i64 N] 3 (0, 0))).drew := by
      have hb : Below wa.heap.size wa (wa.alloc (.cells #[.int .i64 N] 3 (0, 0))).drew := ((Below.refl wa.heap.size wa).alloc (Nat.le_refl _) _).drew
      refine ⟨⟨L, HT1.out.below hb⟩, Kd.C_below (Kd.C_below HR.out HW.out) hb, HB1.out.below hb HB1.out.lt, HBR.out.below hb HBR.out.lt, ?_, HW.out.trans (hb.mono HW.out.size), ?_⟩
      · have := (Blk.new wa #[.int .i64 N] 3).drew
        rwa [HSZ.out] at this
      · show (wa.alloc _).heap.size = _
        rw [World.size_alloc, HSZ.out]
    have HSW := HSZ.out
    obtain ⟨w1, hw1⟩ : ∃ w1, (wa.alloc (.cells #[.int .i64 N] 3 (0, 0))).drew = w1 := ⟨_, rfl⟩
    rw [hw1] at hah ⊢
    have HAH := Lib.hid hah
    have x1 := hah.bx1.cell 0
    simp at x1
    have HS1 := Lib.hid hah.size
    obtain ⟨wb, hwb⟩ : ∃ wb, ((w1.alloc (.cells #[.slice none 0 0] 44 (0, 0))).alloc (.cells #[.int .i64 0, .int .i64 0] 48 (0, 0))).alloc (.cells #[.int .i64 (-1)] 3 (0, 0)) = wb := ⟨_, rfl⟩
    have hbel : Below w1.heap.size w1 wb := by rw [← hwb]; exact (((Below.refl w1.heap.size w1).alloc (Nat.le_refl _) _).alloc (by simp) _).alloc (by simp; omega) _
    have hbb : Blk wb w1.heap.size #[.slice none 0 0] 44 := by rw [← hwb]; exact ((Blk.new w1 _ _).alloc _).alloc _
    have hbo : Blk wb (w1.heap.size + 1) #[.int .i64 0, .int .i64 0] 48 := by
      rw [← hwb]
      have := (Blk.new (w1.alloc (.cells #[.slice none 0 0] 44 (0, 0))) #[.int .i64 0, .int .i64 0] 48).alloc (.cells #[.int .i64 (-1)] 3 (0, 0))
      rwa [World.size_alloc] at this
    have hbg : Blk wb (w1.heap.size + 1 + 1) #[.int .i64 (-1)] 3 := by
      rw [← hwb]
      have := Blk.new ((w1.alloc (.cells #[.slice none 0 0] 44 (0, 0))).alloc (.cells #[.int .i64 0, .int .i64 0] 48 (0, 0))) #[.int .i64 (-1)] 3
      rwa [World.size_alloc, World.size_alloc] at this
    have hsb : wb.heap.size = w1.heap.size + 1 + 1 + 1 := by rw [← hwb]; simp
    have HBEL := Lib.hid hbel
    have HBB := Lib.hid hbb
    have HBO := Lib.hid hbo
    have HBG := Lib.hid hbg
    have HSB := Lib.hid hsb
    have x1b := kbc hbel x1
    clear hah hbel hbb hbo hbg hsb x1 y0 y4 hw1 HSW
    go_wp2_with fail
    refine (choices_calls b _).mono ?_
    rintro e2 w2 ⟨rfl, hw2⟩
    have HW2 := Lib.hid hw2
    clear hw2 hwb x1b
    go_wp2_with fail
    have hb2 : Below wb.heap.size wb w2 := by rw [HW2.out]; exact (Below.refl wb.heap.size wb).alloc (Nat.le_refl _) _
    have hs2 : w2.heap.size = wb.heap.size + 1 := by rw [HW2.out]; simp
    have hbt : Blk w2 wb.heap.size #[.pointer (some ⟨b, 0, none⟩)] 90 := by rw [HW2.out]; exact Blk.new wb _ _
    have hb12 : Below w1.heap.size w1 w2 := HBEL.out.trans (hb2.mono HBEL.out.size)
    obtain ⟨L1, ht1⟩ := HAH.out.tel
    have ht2 := ht1.below hb12
    have hsi2 := Kd.C_below HAH.out.sites hb12
    have hsb := HSB.out
    have hs1 := HS1.out
    have hsz := HSZ.out
    have hml := HT.out.map.lt
    have hbl := HT.out.blk.lt
    have hfix : BFix B b m w.heap.size (w.heap.size + 1) wa.heap.size w1.heap.size (w1.heap.size + 1) (w1.heap.size + 1 + 1) wb.heap.size w2.heap.size A :=
      ⟨HB.out.1, HB.out.2.1, by have := HB.out.2.2; omega, by have := HT.out.ne; omega, by omega, hbl, by omega, fun ad e => HSA.out ad e⟩
    have hI0 : BestI w B b m w.heap.size (w.heap.size + 1) wa.heap.size w1.heap.size (w1.heap.size + 1) (w1.heap.size + 1 + 1) w2.heap.size P lv bu A c ss s N (fun _ => False) [] w2 :=
      ⟨⟨L1, ht2⟩, hsi2, HAH.out.bx1.below hb12 HAH.out.bx1.lt, HAH.out.bxr.below hb12 HAH.out.bxr.lt, by have := HAH.out.bxa.below hb12 HAH.out.bxa.lt; rwa [← hsz] at this, HBO.out.below hb2 HBO.out.lt, HBG.out.below hb2 HBG.out.lt,
        ⟨none, 0, HBB.out.below hb2 HBB.out.lt, Kd.C_nil _ w2, Nat.le_refl _, fun ad e => (by cases e), fun _ => ⟨rfl, rfl⟩, fun _ => rfl, fun x hx => (by cases hx), Nat.zero_le _⟩,
        (HAH.out.bel.trans (hb12.mono HAH.out.bel.size)).mono HB.out.2.2, Nat.le_refl _⟩
    have hseq := choices_seq 8 (fun k => k = b ∨ k = wb.heap.size ∨ ∃ ad, A = some ad ∧ k = ad.block) b m wb.heap.size P lv bu A c ss s w2 HG.out hc ht2.blk hbt hsi2 (Or.inl rfl) (Or.inr (Or.inl rfl)) (fun ad e => Or.inr (Or.inr ⟨ad, e, rfl⟩))
      (fun k hk => by
        rcases hk with rfl | rfl | ⟨ad, e, rfl⟩
        · have := hfix.lt.1; omega
        · omega
        · have := (hfix.s ad e).1; have := hfix.lt.2.2.1; omega)
    have HFX := Lib.hid hfix
    have HI0 := Lib.hid hI0
    have HSEQ := Lib.hid hseq
    have HS2 := Lib.hid hs2
    clear hb2 hs2 hbt hb12 ht1 ht2 hsi2 hsb hs1 hsz hml hbl hfix hI0 hseq
    generalize wb.heap.size = bt at *
    generalize w1.heap.size + 1 + 1 = bg at *
    generalize w1.heap.size + 1 = bo at *
    generalize w1.heap.size = bb at *
    generalize wa.heap.size = ba at *
    generalize w.heap.size + 1 = br at *
    generalize hgb1 : w.heap.size = b1 at *
    have HGB1 := Lib.hid hgb1
    clear hgb1 HW2 HBO HBG HBB HSB HS1 HBEL HAH HSZ HBR HB1 HT1 HW HWH
    refine' wp_rangeO (n := 9) (gf := 86) (lb := #[.pointer (some ⟨bt, 0, none⟩)]) rfl (fun _ _ => by simp [go_sem]) HSEQ.out
      (fun h k => ⟨h.1.trans k.1, Nat.le_trans h.2 k.2⟩) ?hkb (fun pre x W l o o' _ ho hoc hx => CxY.put o' ho hoc hx) (Below.refl _ w2) (fun _ => rfl)
      (fun O pre W => BestI w B b m b1 br ba bb bo bg w2.heap.size P lv bu A c ss s N O pre W) (BestI.held HFX.out) HI0.out _ ?assign ?body ?done
    case hkb =>
      intro W l o o' hl _ _
      refine ⟨fun k hk => World.putObj_heap_other ?_, by simp [World.putObj]⟩
      obtain ⟨l1, l2, l3, l4, l5, l6, l7, l8, l9⟩ := HFX.out.lt
      rcases hk with rfl | rfl | ⟨ad, e, rfl⟩
      · omega
      · omega
      · have := (HFX.out.s ad e).1; omega
    case assign =>
      intro l x W K hK
      simp only [encY]
      gi_wp2
      exact hK
    case body =>
      rintro l O pre ⟨A1, c1, lx⟩ W hI hX hOl hWs
      obtain ⟨hch, hC1, hl1⟩ := hX
      simp only [lstY] at hch hC1 hl1
      simp only [lstY]
      obtain ⟨L2, ht⟩ := hI.tel
      have HI := Lib.hid hI
      have hod := odds_calls b m P lv bu A c ss s L2 A1 c1 lx false W ht hI.sites hC1 hch.n3 (by have := HG.out.l2; omega) HG.out.l3 hch.inS
      obtain ⟨o1, o2, o3, o4, o5, o6⟩ := HO.out lx hch
      have hpre : (pre ++ [((A1, c1, lx) : Yld)]).map lstY = pre.map lstY ++ [lx] := by simp [lstY]
      have hst : bestOf P s ss lv N ((pre ++ [((A1, c1, lx) : Yld)]).map lstY) = bestStep P s ss lv N (bestOf P s ss lv N (pre.map lstY)) lx := by
        rw [hpre]; unfold bestOf; rw [List.foldl_append]; rfl
      unfold bestStep at hst
      generalize oddsW P s ss lv false lx = oW at *
      generalize oddsA P s ss lv false lx = oA at *
      obtain ⟨q, hq⟩ : ∃ q, N / oA = q := ⟨_, rfl⟩
      rw [hq] at hst o5 o6
      have HQ := Lib.hid hq
      have HST := Lib.hid hst
      have HCH := Lib.hid hch
      have HC1 := Lib.hid hC1
      have HOD := Lib.hid (CallsIn.inRound (n := 6) l (callsIn_wide.2 hod))
      have HOL := Lib.hid hOl
      have HWS := Lib.hid hWs
      have HL1 := Lib.hid hl1
      have HTL := Lib.hid ht
      have x1 := hI.bx1.cell 0
      simp at x1
      have hfn : Fence.wide.fn 45 := trivial
      clear hI hch hC1 hl1 hod hpre hst hOl hWs ht
      obtain ⟨ad1, hA1, -⟩ := int_at HC1.out 0 (by have := HCH.out.n1; omega)
      subst hA1
      gi_wp2_with fail
      refine HOD.out.mono ?_
      rintro e3 W1 ⟨rfl, hbut, L3, hT3⟩
      obtain ⟨W2, hW2⟩ : ∃ W2, W1.alloc (.cells #[.int .i64 oW, .int .i64 oA] 48 (0, 0)) = W2 := ⟨_, rfl⟩
      have hbel : Below W1.heap.size W1 W2 := by rw [← hW2]; exact (Below.refl W1.heap.size W1).alloc (Nat.le_refl _) _
      have hbx : Blk W2 W1.heap.size #[.int .i64 oW, .int .i64 oA] 48 := by rw [← hW2]; exact Blk.new W1 _ _
      have hrn : Rnd m bb bo bg W W2 := (Rnd.of_but hbut).then_below hbel
      have hT2 := hT3.below hbel
      have kp : ∀ {n : Nat} {cs : Array Value} {t : TypeId}, n ≠ m → Blk W n cs t → Blk W2 n cs t := fun hn hb => (hbut.blk hb hn).below hbel (hbut.blk hb hn).lt
      obtain ⟨n1, n2, n3, n4, n5, n6, n7, n8⟩ := HFX.out.ne
      have hB1 := kp n2 HI.out.bx1
      have hBa := kp n4 HI.out.bxa
      have hBo := kp n6 HI.out.bxo
      have hBg := kp n7 HI.out.bxg
      obtain ⟨A', c', g1, g2, g3, g4, g5, g6, g7, g8⟩ := HI.out.bxb
      have hBb := kp n5 g1
      have hC2 := Kd.C_below (sites_but hbut HTL.out.map HI.out.sites) hbel
      have hL2 := Kd.C_below (ints_but hbut HTL.out.map HC1.out) hbel
      have hG2 := Kd.C_below (ints_but hbut HTL.out.map g2) hbel
      have HTEL := Lib.hid hT2
      have HSZ1 := Lib.hid hbut.size
      have HRN := Lib.hid hrn
      have HSI := Lib.hid hC2
      have HLX := Lib.hid hL2
      have HG5 := Lib.hid (And.intro g4 (And.intro g5 (And.intro g6 (And.intro g7 g8))))
      have HG3 := Lib.hid g3
      generalize hstt : bestOf P s ss lv N (pre.map lstY) = st at *
      obtain ⟨tb, tw, ta, tg⟩ := st
      simp only at hBo hBg hBb hG2 HST HG5 HG3
      have HGB := Lib.hid hG2
      have HSTT := Lib.hid hstt
      have HBo := Lib.hid hBo
      have HBg := Lib.hid hBg
      have HBb := Lib.hid hBb
      have HBx := Lib.hid hbx
      have z0 := hbx.cell 0
      have z1 := hbx.cell 1
      have zN := hBa.cell 0
      have zb := hB1.cell 0
      have t0 := hT2.blk.cell 0
      have t1 := hT2.blk.cell 1
      have t2 := hT2.blk.cell 2
      have t3 := hT2.blk.cell 3
      have zg := hBg.cell 0
      have zs := hBb.cell 0
      simp at z0 z1 zN zb t0 t1 t2 t3 zg zs
      have hfnc : Fence.wide.fn 63 := trivial
      clear hbut hT3 hbel hbx hrn hT2 kp n1 n2 n3 n4 n5 n6 n7 n8 hB1 hBa hBo hBg hBb hC2 hL2 hG2 g1 g2 g3 g4 g5 g6 g7 g8 hstt x1
      gi_wp2_with fail
      clear hW2
      have HBXL : Hid (w2.heap.size ≤ W1.heap.size) := Lib.hid (Nat.le_trans HWS.out HSZ1.out)
      generalize W1.heap.size = bx at *
      have hqN : N / oA = q := HQ.out
      have hq0 : 0 ≤ q := by rw [← hqN]; exact Int.ediv_nonneg hN0 (by omega)
      have hq1 : q ≤ 1152921504606846976 := by rw [← hqN]; exact Int.le_trans (Int.ediv_le_self _ hN0) hN1
      have hoA : oA ≠ 0 := by omega
      have hquo : IntKind.i64.wrap (Int.tdiv N oA) = q := by rw [Int.tdiv_eq_ediv_of_nonneg hN0, hqN, IntKind.wrap_i64]; omega
      have hmul : IntKind.i64.wrap (oW * q) = oW * q := by
        clear hquo
        generalize oW * q = z at *
        rw [IntKind.wrap_i64]; omega
      refine wpIn_round_held (S := fun w' => w'.cell? ⟨bx, 0, none⟩ = some (.int .i64 oW) ∧ w'.cell? ⟨bx, 1, none⟩ = some (.int .i64 oA) ∧ w'.cell? ⟨ba, 0, none⟩ = some (.int .i64 N)) (by kernel_rfl) (by kernel_rfl) (fun _ _ h => h) ⟨z0, z1, zN⟩ (fun hS => ?_)
      refine tk1 0 (.pointer (some ⟨bx, 0, none⟩)) rfl (fun w' hSw => by go_simp) hS ?_
      try simp only [Act.put, xg0, xg1, xg2, xs0, xs1, xs2]
      refine tk1 1 (.int .i64 oW) rfl (fun w' hSw => by obtain ⟨h0, h1, h2⟩ := hSw; go_simp) hS ?_
      try simp only [Act.put, xg0, xg1, xg2, xs0, xs1, xs2]
      refine tk1 2 (.int .i64 N) rfl (fun w' hSw => by obtain ⟨h0, h1, h2⟩ := hSw; go_simp) hS ?_
      try simp only [Act.put, xg0, xg1, xg2, xs0, xs1, xs2]
      refine tk1 3 (.pointer (some ⟨bx, 1, none⟩)) rfl (fun w' hSw => by go_simp) hS ?_
      try simp only [Act.put, xg0, xg1, xg2, xs0, xs1, xs2]
      refine tk1 4 (.int .i64 oA) rfl (fun w' hSw => by obtain ⟨h0, h1, h2⟩ := hSw; go_simp) hS ?_
      try simp only [Act.put, xg0, xg1, xg2, xs0, xs1, xs2]
      refine tk1 5 (.int .i64 q) rfl (fun w' hSw => by go_simp) hS ?_
      try simp only [Act.put, xg0, xg1, xg2, xs0, xs1, xs2]
      refine tk1 6 (.int .i64 (oW * q)) rfl (fun w' hSw => by go_simp) hS ?_
      try simp only [Act.put, xg0, xg1, xg2, xs0, xs1, xs2]
      refine tk1 7 (.int .i64 (oW * q)) rfl (fun w' hSw => by go_simp) hS ?_
      try simp only [Act.put, xg0, xg1, xg2, xs0, xs1, xs2]
      refine wpAnyH_done (by kernel_rfl) ?_ _
      clear hS hqN hq0 hq1 hquo hmul hoA
      generalize oW * q = nn at *
      gi_wp2_with fail
      rcases Classical.em (tg < nn) with hc1 | hc1
      · have hb1 : decide (tg < nn) = true := decide_eq_true hc1
        have hyes : tg < nn ∨ (nn = tg ∧ costV ss lx < costV ss tb) := Or.inl hc1
        clear hc1
        refine wpIn_round_held (S := fun w' => w'.cell? ⟨bg, 0, none⟩ = some (.int .i64 tg) ∧ w'.cell? ⟨b1, 0, none⟩ = some (.pointer (some ⟨b, 0, none⟩)) ∧ w'.cell? ⟨b, 0, none⟩ = some (.int .i64 P) ∧ w'.cell? ⟨b, 1, none⟩ = some (.int .i64 lv) ∧ w'.cell? ⟨b, 2, none⟩ = some (.int .i64 bu) ∧ w'.cell? ⟨b, 3, none⟩ = some (.slice A ss.length c) ∧ w'.cell? ⟨bb, 0, none⟩ = some (.slice A' tb.length c') ∧ w'.cell? ⟨bx, 0, none⟩ = some (.int .i64 oW) ∧ w'.cell? ⟨bx, 1, none⟩ = some (.int .i64 oA)) (by kernel_rfl) (by kernel_rfl) (fun _ _ h => h) ⟨zg, zb, t0, t1, t2, t3, zs, z0, z1⟩ (fun hS => ?_)
        refine tk1 0 (.int .i64 nn) rfl (fun w' hSw => by go_simp) hS ?_
        try simp only [Act.put, xg0, xg1, xg2, xs0, xs1, xs2]
        refine tk1 1 (.int .i64 tg) rfl (fun w' hSw => by obtain ⟨h0, h1, h2, h3, h4, h5, h6, h7, h8⟩ := hSw; go_simp) hS ?_
        try simp only [Act.put, xg0, xg1, xg2, xs0, xs1, xs2]
        refine tk1 2 (.bool true) rfl (fun w' hSw => by go_simp) hS ?_
        try simp only [Act.put, xg0, xg1, xg2, xs0, xs1, xs2]
        refine tk1 3 (.bool true) rfl (fun w' hSw => by go_simp) hS ?_
        try simp only [Act.put, xg0, xg1, xg2, xs0, xs1, xs2]
        refine tk2 4 rfl hS ?_
        try simp only [Act.put, xg0, xg1, xg2, xs0, xs1, xs2]
        refine tk2 5 rfl hS ?_
        try simp only [Act.put, xg0, xg1, xg2, xs0, xs1, xs2]
        refine tk2 6 rfl hS ?_
        try simp only [Act.put, xg0, xg1, xg2, xs0, xs1, xs2]
        refine tk2 7 rfl hS ?_
        try simp only [Act.put, xg0, xg1, xg2, xs0, xs1, xs2]
        refine tk2 8 rfl hS ?_
        try simp only [Act.put, xg0, xg1, xg2, xs0, xs1, xs2]
        refine tk2 9 rfl hS ?_
        try simp only [Act.put, xg0, xg1, xg2, xs0, xs1, xs2]
        refine tk2 10 rfl hS ?_
        try simp only [Act.put, xg0, xg1, xg2, xs0, xs1, xs2]
        refine tk2 11 rfl hS ?_
        try simp only [Act.put, xg0, xg1, xg2, xs0, xs1, xs2]
        refine tk2 12 rfl hS ?_
        try simp only [Act.put, xg0, xg1, xg2, xs0, xs1, xs2]
        refine tk2 14 rfl hS ?_
        try simp only [Act.put, xg0, xg1, xg2, xs0, xs1, xs2]
        refine tk2 15 rfl hS ?_
        try simp only [Act.put, xg0, xg1, xg2, xs0, xs1, xs2]
        refine tk2 16 rfl hS ?_
        try simp only [Act.put, xg0, xg1, xg2, xs0, xs1, xs2]
        refine tk2 17 rfl hS ?_
        try simp only [Act.put, xg0, xg1, xg2, xs0, xs1, xs2]
        refine tk2 18 rfl hS ?_
        try simp only [Act.put, xg0, xg1, xg2, xs0, xs1, xs2]
        refine wpAnyH_ready (rs := [13]) (by kernel_rfl) (by simp) ?_
        refine AllReadyH.cons (o := _) rfl (fun K' hK => ?_) AllReadyH.nil
        go_simp
        refine hK.out _ _ hS (fun hS => ?_)
        clear hK K'
        try simp only [Act.put, xg0, xg1, xg2, xs0, xs1, xs2]
        refine wpAnyH_ready (rs := [19]) (by kernel_rfl) (by simp) ?_
        refine AllReadyH.cons (o := _) rfl (fun K' hK => ?_) AllReadyH.nil
        go_simp
        refine hK.out _ _ hS (fun hS => ?_)
        clear hK K'
        try simp only [Act.put, xg0, xg1, xg2, xs0, xs1, xs2]
        refine tk2 20 rfl hS ?_
        try simp only [Act.put, xg0, xg1, xg2, xs0, xs1, xs2]
        refine tk2 21 rfl hS ?_
        try simp only [Act.put, xg0, xg1, xg2, xs0, xs1, xs2]
        refine tk1 22 (.bool true) rfl (fun w' hSw => by go_simp) hS ?_
        try simp only [Act.put, xg0, xg1, xg2, xs0, xs1, xs2]
        refine wpAnyH_done (by kernel_rfl) ?_ _
        have HB7 : Hid (Below W2.heap.size W2 W2.drew.drew) := Lib.hid (Below.refl W2.heap.size W2).drew.drew
        have HBx7 := Lib.hid (HBx.out.below HB7.out HBx.out.lt)
        have HRN7 := Lib.hid (HRN.out.then_below HB7.out)
        have z07 := kbc HB7.out z0
        have z17 := kbc HB7.out z1
        have HLX7 := Lib.hid (Kd.C_below HLX.out HB7.out)
        clear hS zg zb t0 t1 t2 t3 zs z0 z1 zN
        gi_wp2_with fail
        refine wpIn_round_held (S := fun w' => Blk w' bx #[.int .i64 oW, .int .i64 oA] 48) (by kernel_rfl) (by kernel_rfl) (fun _ _ h => h) HBx7.out.drew (fun hS => ?_)
        refine tk1 0 (.slice (some ad1) lx.length c1) rfl (fun w' hSw => by go_simp) hS ?_
        try simp only [Act.put, xg0, xg1, xg2, xs0, xs1, xs2]
        refine tk1 2 (.agg #[.int .i64 oW, .int .i64 oA]) rfl (fun w' hSw => by have h0 := hSw.cell 0; have h1 := hSw.cell 1; simp at h0 h1; go_simp) hS ?_
        try simp only [Act.put, xg0, xg1, xg2, xs0, xs1, xs2]
        refine tk1 3 (.int .i64 nn) rfl (fun w' hSw => by go_simp) hS ?_
        try simp only [Act.put, xg0, xg1, xg2, xs0, xs1, xs2]
        refine wpAnyH_ready (rs := [1]) (by kernel_rfl) (by simp) ?_
        refine AllReadyH.cons (o := _) rfl (fun K' hK => ?_) AllReadyH.nil
        go_simp
        refine (clone_calls ad1 c1 lx _ (Kd.C_drew HLX7.out) (by have := HCH.out.n1; omega) (by have := HCH.out.n3; omega)).mono ?_
        rintro e8 w8 ⟨g, c8, rfl, hC8, hl8, hg8, hb8⟩
        go_wp2_with fail
        have HB8 := Lib.hid (show Below W2.heap.size W2 w8 from HB7.out.drew.trans (hb8.mono HB7.out.size))
        have HC8 := Lib.hid hC8
        have HL8 := Lib.hid hl8
        have HG8 := Lib.hid (Nat.le_trans HB7.out.size (show W2.drew.drew.heap.size ≤ g from hg8))
        have hx8 := HBx.out.below HB8.out HBx.out.lt
        refine hK.out _ _ hx8 (fun hS => ?_)
        clear hK K' hC8 hl8 hg8 hb8
        try simp only [Act.put, xg0, xg1, xg2, xs0, xs1, xs2]
        refine wpAnyH_ready (rs := [4]) (by kernel_rfl) (by simp) ?_
        refine AllReadyH.cons (o := _) rfl (fun K' hK => ?_) AllReadyH.nil
        have hs8 := HBb.out.below HB8.out HBb.out.lt
        have h0 := hs8.cell 0
        have f0 := hs8.free 0
        simp at h0
        obtain ⟨l1, l2, l3, l4, l5, l6, l7, l8, l9⟩ := HFX.out.lt
        obtain ⟨d1, d2, d3, d4, d5, d6⟩ := HFX.out.d
        have hbx0 : w2.heap.size ≤ bx := HBXL.out
        obtain ⟨w9, hw9⟩ : ∃ w9, w8.setCell ⟨bb, 0, none⟩ (.slice (some ⟨g, 0, none⟩) lx.length c8) = w9 := ⟨_, rfl⟩
        have hx9 : Blk w9 bx #[.int .i64 oW, .int .i64 oA] 48 := by rw [← hw9]; exact hx8.other (by simp; omega) _
        have hb9 : Blk w9 bb #[.slice (some ⟨g, 0, none⟩) lx.length c8] 44 := by
          rw [← hw9]; have := hs8.setCell 0 (.slice (some ⟨g, 0, none⟩) lx.length c8)
          simpa using this
        have ho9 : Blk w9 bo #[.int .i64 tw, .int .i64 ta] 48 := by rw [← hw9]; exact (HBo.out.below HB8.out HBo.out.lt).other (by simp; omega) _
        have hg9 : Blk w9 bg #[.int .i64 tg] 3 := by rw [← hw9]; exact (HBg.out.below HB8.out HBg.out.lt).other (by simp; omega) _
        have hr9 : Rnd m bb bo bg W w9 := by rw [← hw9]; exact (HRN.out.then_below HB8.out).set _ _ (Or.inl rfl)
        have hC9 : Kd.C (Kd.int .i64) w9 (some ⟨g, 0, none⟩) lx.length lx := ints_blk (w := w8) (fun ad e _ => by cases e; rw [← hw9]; exact Below.heap_setCell _ _ _ _ (by have := HG8.out; have := HBb.out.lt; simp; omega)) HC8.out
        have hT9 : Tel w9 b m P lv bu A c ss s L3 := by
          have h := HTEL.out.below HB8.out
          have hbb := HFX.out.b
          exact ⟨by rw [← hw9]; exact h.blk.other (by simp; omega) _, h.map.keep (by rw [← hw9]; exact Below.heap_setCell _ _ _ _ (by have := HFX.out.ne; simp; omega)), h.ne, h.ok⟩
        go_simp
        refine hK.out _ _ hx9 (fun hS => ?_)
        clear hK K' h0 f0 hs8 hx8 hw9
        try simp only [Act.put, xg0, xg1, xg2, xs0, xs1, xs2]
        refine wpAnyH_ready (rs := [5]) (by kernel_rfl) (by simp) ?_
        refine AllReadyH.cons (o := _) rfl (fun K' hK => ?_) AllReadyH.nil
        have h0 := ho9.cell 0
        have h1 := ho9.cell 1
        have f0 := ho9.free 0
        have f1 := ho9.free 1
        simp at h0 h1
        obtain ⟨wc, hwc⟩ : ∃ wc, (w9.setCell ⟨bo, 0, none⟩ (.int .i64 oW)).setCell ⟨bo, 1, none⟩ (.int .i64 oA) = wc := ⟨_, rfl⟩
        have hx10 : Blk wc bx #[.int .i64 oW, .int .i64 oA] 48 := by rw [← hwc]; exact (hx9.other (by simp; omega) _).other (by simp; omega) _
        have hb10 : Blk wc bb #[.slice (some ⟨g, 0, none⟩) lx.length c8] 44 := by rw [← hwc]; exact (hb9.other (by simp; omega) _).other (by simp; omega) _
        have ho10 : Blk wc bo #[.int .i64 oW, .int .i64 oA] 48 := by
          rw [← hwc]; have := (ho9.setCell 0 (.int .i64 oW)).setCell 1 (.int .i64 oA)
          simpa using this
        have hg10 : Blk wc bg #[.int .i64 tg] 3 := by rw [← hwc]; exact (hg9.other (by simp; omega) _).other (by simp; omega) _
        have hr10 : Rnd m bb bo bg W wc := by rw [← hwc]; exact (hr9.set _ _ (Or.inr (Or.inl rfl))).set _ _ (Or.inr (Or.inl rfl))
        have hC10 : Kd.C (Kd.int .i64) wc (some ⟨g, 0, none⟩) lx.length lx := ints_blk (w := w9) (fun ad e _ => by cases e; rw [← hwc]; exact (Below.heap_setCell _ _ _ _ (by have := HG8.out; have := HBo.out.lt; simp; omega)).trans (Below.heap_setCell _ _ _ _ (by have := HG8.out; have := HBo.out.lt; simp; omega))) hC9
        have hT10 : Tel wc b m P lv bu A c ss s L3 := by
          have hbb := HFX.out.b
          exact ⟨by rw [← hwc]; exact (hT9.blk.other (by simp; omega) _).other (by simp; omega) _, hT9.map.keep (by rw [← hwc]; exact (Below.heap_setCell _ _ _ _ (by have := HFX.out.ne; simp; omega)).trans (Below.heap_setCell _ _ _ _ (by have := HFX.out.ne; simp; omega))), hT9.ne, hT9.ok⟩
        go_simp
        refine hK.out _ _ hx10 (fun hS => ?_)
        clear hK K' h0 h1 f0 f1 hwc
        try simp only [Act.put, xg0, xg1, xg2, xs0, xs1, xs2]
        refine wpAnyH_ready (rs := [6]) (by kernel_rfl) (by simp) ?_
        refine AllReadyH.cons (o := _) rfl (fun K' hK => ?_) AllReadyH.nil
        have h0 := hg10.cell 0
        have f0 := hg10.free 0
        simp at h0
        obtain ⟨wd, hwd⟩ : ∃ wd, wc.setCell ⟨bg, 0, none⟩ (.int .i64 nn) = wd := ⟨_, rfl⟩
        have hx11 : Blk wd bx #[.int .i64 oW, .int .i64 oA] 48 := by rw [← hwd]; exact hx10.other (by simp; omega) _
        have hb11 : Blk wd bb #[.slice (some ⟨g, 0, none⟩) lx.length c8] 44 := by rw [← hwd]; exact hb10.other (by simp; omega) _
        have ho11 : Blk wd bo #[.int .i64 oW, .int .i64 oA] 48 := by rw [← hwd]; exact ho10.other (by simp; omega) _
        have hg11 : Blk wd bg #[.int .i64 nn] 3 := by
          rw [← hwd]; have := hg10.setCell 0 (.int .i64 nn)
          simpa using this
        have hr11 : Rnd m bb bo bg W wd := by rw [← hwd]; exact hr10.set _ _ (Or.inr (Or.inr rfl))
        have hC11 : Kd.C (Kd.int .i64) wd (some ⟨g, 0, none⟩) lx.length lx := ints_blk (w := wc) (fun ad e _ => by cases e; rw [← hwd]; exact Below.heap_setCell _ _ _ _ (by have := HG8.out; have := HBg.out.lt; simp; omega)) hC10
        have hT11 : Tel wd b m P lv bu A c ss s L3 := by
          have hbb := HFX.out.b
          exact ⟨by rw [← hwd]; exact hT10.blk.other (by simp; omega) _, hT10.map.keep (by rw [← hwd]; exact Below.heap_setCell _ _ _ _ (by have := HFX.out.ne; simp; omega)), hT10.ne, hT10.ok⟩
        go_simp
        refine hK.out _ _ hx11 (fun hS => ?_)
        clear hK K' h0 f0 hwd
        try simp only [Act.put, xg0, xg1, xg2, xs0, xs1, xs2]
        refine wpAnyH_done (by kernel_rfl) ?_ _
        have HR11 := Lib.hid hr11
        have HALL := Lib.hid (And.intro hT11 (And.intro ho11 (And.intro hg11 (And.intro hb11 hC11))))
        clear hS hx11 hb11 ho11 hg11 hr11 hC11 hT11 hx10 hb10 ho10 hg10 hr10 hC10 hT10 hx9 hb9 ho9 hg9 hr9 hC9 hT9
        gi_wp2
        obtain ⟨p1, p2, p3⟩ := rnd_post HFX.out HR11.out HOL.out HWS.out
        have hg0 := HG8.out
        have hsz := HRN.out.size
        exact ⟨p1, p2, p3, BestI.next (st := ⟨lx, oW, oA, nn⟩) HFX.out HI.out HR11.out ⟨L3, HALL.out.1⟩ (by rw [HST.out, if_pos hyes]) HALL.out.2.1 HALL.out.2.2.1 ⟨some ⟨g, 0, none⟩, c8, HALL.out.2.2.2.1, HALL.out.2.2.2.2, HL8.out, fun ad e => by
          cases e
          refine ⟨by have := HWS.out; show _ ≤ g; omega, fun ho => ?_⟩
          have h3 : g < W.heap.size := (HOL.out _ ho).2
          omega, fun e => (by cases e), fun e => (by have := HCH.out.n1; rw [show lx = [] from e] at this; simp at this), HCH.out.inS, HCH.out.n3⟩⟩
      · have hb1 : decide (tg < nn) = false := decide_eq_false hc1
        rcases Classical.em (nn = tg) with hc2 | hc2
        · have hb2 : (nn == tg) = true := by simp [hc2]
          rcases Classical.em (costV ss lx < costV ss tb) with hc3 | hc3
          · have hb3 : decide (costV ss lx < costV ss tb) = true := decide_eq_true hc3
            have hyes : tg < nn ∨ (nn = tg ∧ costV ss lx < costV ss tb) := Or.inr ⟨hc2, hc3⟩
            clear hc1 hc2 hc3
            refine wpIn_round_held (S := fun w' => w'.cell? ⟨bg, 0, none⟩ = some (.int .i64 tg) ∧ w'.cell? ⟨b1, 0, none⟩ = some (.pointer (some ⟨b, 0, none⟩)) ∧ w'.cell? ⟨b, 0, none⟩ = some (.int .i64 P) ∧ w'.cell? ⟨b, 1, none⟩ = some (.int .i64 lv) ∧ w'.cell? ⟨b, 2, none⟩ = some (.int .i64 bu) ∧ w'.cell? ⟨b, 3, none⟩ = some (.slice A ss.length c) ∧ w'.cell? ⟨bb, 0, none⟩ = some (.slice A' tb.length c') ∧ w'.cell? ⟨bx, 0, none⟩ = some (.int .i64 oW) ∧ w'.cell? ⟨bx, 1, none⟩ = some (.int .i64 oA)) (by kernel_rfl) (by kernel_rfl) (fun _ _ h => h) ⟨zg, zb, t0, t1, t2, t3, zs, z0, z1⟩ (fun hS => ?_)
            refine tk1 0 (.int .i64 nn) rfl (fun w' hSw => by go_simp) hS ?_
            try simp only [Act.put, xg0, xg1, xg2, xs0, xs1, xs2]
            refine tk1 1 (.int .i64 tg) rfl (fun w' hSw => by obtain ⟨h0, h1, h2, h3, h4, h5, h6, h7, h8⟩ := hSw; go_simp) hS ?_
            try simp only [Act.put, xg0, xg1, xg2, xs0, xs1, xs2]
            refine tk1 2 (.bool false) rfl (fun w' hSw => by go_simp) hS ?_
            try simp only [Act.put, xg0, xg1, xg2, xs0, xs1, xs2]
            refine tk1 3 (.bool false) rfl (fun w' hSw => by go_simp) hS ?_
            try simp only [Act.put, xg0, xg1, xg2, xs0, xs1, xs2]
            refine tk1 4 (.int .i64 nn) rfl (fun w' hSw => by go_simp) hS ?_
            try simp only [Act.put, xg0, xg1, xg2, xs0, xs1, xs2]
            refine tk1 5 (.int .i64 tg) rfl (fun w' hSw => by obtain ⟨h0, h1, h2, h3, h4, h5, h6, h7, h8⟩ := hSw; go_simp) hS ?_
            try simp only [Act.put, xg0, xg1, xg2, xs0, xs1, xs2]
            refine tk1 6 (.bool true) rfl (fun w' hSw => by go_simp) hS ?_
            try simp only [Act.put, xg0, xg1, xg2, xs0, xs1, xs2]
            refine tk1 7 (.bool true) rfl (fun w' hSw => by go_simp) hS ?_
            try simp only [Act.put, xg0, xg1, xg2, xs0, xs1, xs2]
            refine tk1 8 (.pointer (some ⟨b, 0, none⟩)) rfl (fun w' hSw => by obtain ⟨h0, h1, h2, h3, h4, h5, h6, h7, h8⟩ := hSw; go_simp) hS ?_
            try simp only [Act.put, xg0, xg1, xg2, xs0, xs1, xs2]
            refine tk1 9 (.pointer (some ⟨b, 0, none⟩)) rfl (fun w' hSw => by obtain ⟨h0, h1, h2, h3, h4, h5, h6, h7, h8⟩ := hSw; go_simp) hS ?_
            try simp only [Act.put, xg0, xg1, xg2, xs0, xs1, xs2]
            refine tk1 10 (.pointer (some ⟨b, 0, none⟩)) rfl (fun w' hSw => by go_simp) hS ?_
            try simp only [Act.put, xg0, xg1, xg2, xs0, xs1, xs2]
            refine tk1 11 (.agg #[.int .i64 P, .int .i64 lv, .int .i64 bu, .slice A ss.length c]) rfl (fun w' hSw => by obtain ⟨h0, h1, h2, h3, h4, h5, h6, h7, h8⟩ := hSw; go_simp) hS ?_
            try simp only [Act.put, xg0, xg1, xg2, xs0, xs1, xs2]
            refine tk1 12 (.slice (some ad1) lx.length c1) rfl (fun w' hSw => by go_simp) hS ?_
            try simp only [Act.put, xg0, xg1, xg2, xs0, xs1, xs2]
            refine tk1 14 (.pointer (some ⟨b, 0, none⟩)) rfl (fun w' hSw => by obtain ⟨h0, h1, h2, h3, h4, h5, h6, h7, h8⟩ := hSw; go_simp) hS ?_
            try simp only [Act.put, xg0, xg1, xg2, xs0, xs1, xs2]
            refine tk1 15 (.pointer (some ⟨b, 0, none⟩)) rfl (fun w' hSw => by obtain ⟨h0, h1, h2, h3, h4, h5, h6, h7, h8⟩ := hSw; go_simp) hS ?_
            try simp only [Act.put, xg0, xg1, xg2, xs0, xs1, xs2]
            refine tk1 16 (.pointer (some ⟨b, 0, none⟩)) rfl (fun w' hSw => by go_simp) hS ?_
            try simp only [Act.put, xg0, xg1, xg2, xs0, xs1, xs2]
            refine tk1 17 (.agg #[.int .i64 P, .int .i64 lv, .int .i64 bu, .slice A ss.length c]) rfl (fun w' hSw => by obtain ⟨h0, h1, h2, h3, h4, h5, h6, h7, h8⟩ := hSw; go_simp) hS ?_
            try simp only [Act.put, xg0, xg1, xg2, xs0, xs1, xs2]
            refine tk1 18 (.slice A' tb.length c') rfl (fun w' hSw => by obtain ⟨h0, h1, h2, h3, h4, h5, h6, h7, h8⟩ := hSw; go_simp) hS ?_
            try simp only [Act.put, xg0, xg1, xg2, xs0, xs1, xs2]
            refine wpAnyH_ready (rs := [13]) (by kernel_rfl) (by simp) ?_
            refine AllReadyH.cons (o := _) rfl (fun K' hK => ?_) AllReadyH.nil
            go_simp
            refine (camp_cost.calls 20 P lv bu A c ss (some ad1) c1 lx (costV ss lx) _ (Kd.C_below HSI.out (Below.refl W2.heap.size W2).drew.drew) hc (Kd.C_below HLX.out (Below.refl W2.heap.size W2).drew.drew) HL1.out (cost_ok HG.out HCH.out.inS (by have := HCH.out.n3; have := HG5.out.2.2.2.2; omega) (by have := HCH.out.n3; have := HG5.out.2.2.2.2; omega))).mono ?_
            rintro e6 w6 ⟨rfl, hb6⟩
            go_wp2_with fail
            have HB6 := Lib.hid (show Below W2.heap.size W2 w6 from ((Below.refl W2.heap.size W2).drew.drew).trans (hb6.mono ((Below.refl W2.heap.size W2).drew.drew).size))
            obtain ⟨h0, h1, h2, h3, h4, h5, h6, h7, h8⟩ := hS
            refine hK.out _ _ ⟨kbc hb6 h0, kbc hb6 h1, kbc hb6 h2, kbc hb6 h3, kbc hb6 h4, kbc hb6 h5, kbc hb6 h6, kbc hb6 h7, kbc hb6 h8⟩ (fun hS => ?_)
            clear hK K' hb6 h0 h1 h2 h3 h4 h5 h6 h7 h8
            try simp only [Act.put, xg0, xg1, xg2, xs0, xs1, xs2]
            refine wpAnyH_ready (rs := [19]) (by kernel_rfl) (by simp) ?_
            refine AllReadyH.cons (o := _) rfl (fun K' hK => ?_) AllReadyH.nil
            go_simp
            refine (camp_cost.calls 20 P lv bu A c ss A' c' tb (costV ss tb) _ (Kd.C_below HSI.out HB6.out) hc (Kd.C_below HGB.out HB6.out) HG3.out (cost_ok HG.out HG5.out.2.2.2.1 (by have := HCH.out.n3; have := HG5.out.2.2.2.2; omega) (by have := HCH.out.n3; have := HG5.out.2.2.2.2; omega))).mono ?_
            rintro e7 w7 ⟨rfl, hb7⟩
            go_wp2_with fail
            have HB7 := Lib.hid (show Below W2.heap.size W2 w7 from (HB6.out).trans (hb7.mono (HB6.out).size))
            obtain ⟨h0, h1, h2, h3, h4, h5, h6, h7, h8⟩ := hS
            refine hK.out _ _ ⟨kbc hb7 h0, kbc hb7 h1, kbc hb7 h2, kbc hb7 h3, kbc hb7 h4, kbc hb7 h5, kbc hb7 h6, kbc hb7 h7, kbc hb7 h8⟩ (fun hS => ?_)
            clear hK K' hb7 h0 h1 h2 h3 h4 h5 h6 h7 h8
            try simp only [Act.put, xg0, xg1, xg2, xs0, xs1, xs2]
            refine tk1 20 (.bool true) rfl (fun w' hSw => by go_simp) hS ?_
            try simp only [Act.put, xg0, xg1, xg2, xs0, xs1, xs2]
            refine tk1 21 (.bool true) rfl (fun w' hSw => by go_simp) hS ?_
            try simp only [Act.put, xg0, xg1, xg2, xs0, xs1, xs2]
            refine tk1 22 (.bool true) rfl (fun w' hSw => by go_simp) hS ?_
            try simp only [Act.put, xg0, xg1, xg2, xs0, xs1, xs2]
            refine wpAnyH_done (by kernel_rfl) ?_ _
            clear HB6
            have HBx7 := Lib.hid (HBx.out.below HB7.out HBx.out.lt)
            have HRN7 := Lib.hid (HRN.out.then_below HB7.out)
            have z07 := kbc HB7.out z0
            have z17 := kbc HB7.out z1
            have HLX7 := Lib.hid (Kd.C_below HLX.out HB7.out)
            clear hS zg zb t0 t1 t2 t3 zs z0 z1 zN
            gi_wp2_with fail
            refine wpIn_round_held (S := fun w' => Blk w' bx #[.int .i64 oW, .int .i64 oA] 48) (by kernel_rfl) (by kernel_rfl) (fun _ _ h => h) HBx7.out.drew (fun hS => ?_)
            refine tk1 0 (.slice (some ad1) lx.length c1) rfl (fun w' hSw => by go_simp) hS ?_
            try simp only [Act.put, xg0, xg1, xg2, xs0, xs1, xs2]
            refine tk1 2 (.agg #[.int .i64 oW, .int .i64 oA]) rfl (fun w' hSw => by have h0 := hSw.cell 0; have h1 := hSw.cell 1; simp at h0 h1; go_simp) hS ?_
            try simp only [Act.put, xg0, xg1, xg2, xs0, xs1, xs2]
            refine tk1 3 (.int .i64 nn) rfl (fun w' hSw => by go_simp) hS ?_
            try simp only [Act.put, xg0, xg1, xg2, xs0, xs1, xs2]
            refine wpAnyH_ready (rs := [1]) (by kernel_rfl) (by simp) ?_
            refine AllReadyH.cons (o := _) rfl (fun K' hK => ?_) AllReadyH.nil
            go_simp
            refine (clone_calls ad1 c1 lx _ (Kd.C_drew HLX7.out) (by have := HCH.out.n1; omega) (by have := HCH.out.n3; omega)).mono ?_
            rintro e8 w8 ⟨g, c8, rfl, hC8, hl8, hg8, hb8⟩
            go_wp2_with fail
            have HB8 := Lib.hid (show Below W2.heap.size W2 w8 from HB7.out.drew.trans (hb8.mono HB7.out.size))
            have HC8 := Lib.hid hC8
            have HL8 := Lib.hid hl8
            have HG8 := Lib.hid (Nat.le_trans HB7.out.size (show w7.heap.size ≤ g from hg8))
            have hx8 := HBx.out.below HB8.out HBx.out.lt
            refine hK.out _ _ hx8 (fun hS => ?_)
            clear hK K' hC8 hl8 hg8 hb8
            try simp only [Act.put, xg0, xg1, xg2, xs0, xs1, xs2]
            refine wpAnyH_ready (rs := [4]) (by kernel_rfl) (by simp) ?_
            refine AllReadyH.cons (o := _) rfl (fun K' hK => ?_) AllReadyH.nil
            have hs8 := HBb.out.below HB8.out HBb.out.lt
            have h0 := hs8.cell 0
            have f0 := hs8.free 0
            simp at h0
            obtain ⟨l1, l2, l3, l4, l5, l6, l7, l8, l9⟩ := HFX.out.lt
            obtain ⟨d1, d2, d3, d4, d5, d6⟩ := HFX.out.d
            have hbx0 : w2.heap.size ≤ bx := HBXL.out
            obtain ⟨w9, hw9⟩ : ∃ w9, w8.setCell ⟨bb, 0, none⟩ (.slice (some ⟨g, 0, none⟩) lx.length c8) = w9 := ⟨_, rfl⟩
            have hx9 : Blk w9 bx #[.int .i64 oW, .int .i64 oA] 48 := by rw [← hw9]; exact hx8.other (by simp; omega) _
            have hb9 : Blk w9 bb #[.slice (some ⟨g, 0, none⟩) lx.length c8] 44 := by
              rw [← hw9]; have := hs8.setCell 0 (.slice (some ⟨g, 0, none⟩) lx.length c8)
              simpa using this
            have ho9 : Blk w9 bo #[.int .i64 tw, .int .i64 ta] 48 := by rw [← hw9]; exact (HBo.out.below HB8.out HBo.out.lt).other (by simp; omega) _
            have hg9 : Blk w9 bg #[.int .i64 tg] 3 := by rw [← hw9]; exact (HBg.out.below HB8.out HBg.out.lt).other (by simp; omega) _
            have hr9 : Rnd m bb bo bg W w9 := by rw [← hw9]; exact (HRN.out.then_below HB8.out).set _ _ (Or.inl rfl)
            have hC9 : Kd.C (Kd.int .i64) w9 (some ⟨g, 0, none⟩) lx.length lx := ints_blk (w := w8) (fun ad e _ => by cases e; rw [← hw9]; exact Below.heap_setCell _ _ _ _ (by have := HG8.out; have := HBb.out.lt; simp; omega)) HC8.out
            have hT9 : Tel w9 b m P lv bu A c ss s L3 := by
              have h := HTEL.out.below HB8.out
              have hbb := HFX.out.b
              exact ⟨by rw [← hw9]; exact h.blk.other (by simp; omega) _, h.map.keep (by rw [← hw9]; exact Below.heap_setCell _ _ _ _ (by have := HFX.out.ne; simp; omega)), h.ne, h.ok⟩
            go_simp
            refine hK.out _ _ hx9 (fun hS => ?_)
            clear hK K' h0 f0 hs8 hx8 hw9
            try simp only [Act.put, xg0, xg1, xg2, xs0, xs1, xs2]
            refine wpAnyH_ready (rs := [5]) (by kernel_rfl) (by simp) ?_
            refine AllReadyH.cons (o := _) rfl (fun K' hK => ?_) AllReadyH.nil
            have h0 := ho9.cell 0
            have h1 := ho9.cell 1
            have f0 := ho9.free 0
            have f1 := ho9.free 1
            simp at h0 h1
            obtain ⟨wc, hwc⟩ : ∃ wc, (w9.setCell ⟨bo, 0, none⟩ (.int .i64 oW)).setCell ⟨bo, 1, none⟩ (.int .i64 oA) = wc := ⟨_, rfl⟩
            have hx10 : Blk wc bx #[.int .i64 oW, .int .i64 oA] 48 := by rw [← hwc]; exact (hx9.other (by simp; omega) _).other (by simp; omega) _
            have hb10 : Blk wc bb #[.slice (some ⟨g, 0, none⟩) lx.length c8] 44 := by rw [← hwc]; exact (hb9.other (by simp; omega) _).other (by simp; omega) _
            have ho10 : Blk wc bo #[.int .i64 oW, .int .i64 oA] 48 := by
              rw [← hwc]; have := (ho9.setCell 0 (.int .i64 oW)).setCell 1 (.int .i64 oA)
              simpa using this
            have hg10 : Blk wc bg #[.int .i64 tg] 3 := by rw [← hwc]; exact (hg9.other (by simp; omega) _).other (by simp; omega) _
            have hr10 : Rnd m bb bo bg W wc := by rw [← hwc]; exact (hr9.set _ _ (Or.inr (Or.inl rfl))).set _ _ (Or.inr (Or.inl rfl))
            have hC10 : Kd.C (Kd.int .i64) wc (some ⟨g, 0, none⟩) lx.length lx := ints_blk (w := w9) (fun ad e _ => by cases e; rw [← hwc]; exact (Below.heap_setCell _ _ _ _ (by have := HG8.out; have := HBo.out.lt; simp; omega)).trans (Below.heap_setCell _ _ _ _ (by have := HG8.out; have := HBo.out.lt; simp; omega))) hC9
            have hT10 : Tel wc b m P lv bu A c ss s L3 := by
              have hbb := HFX.out.b
              exact ⟨by rw [← hwc]; exact (hT9.blk.other (by simp; omega) _).other (by simp; omega) _, hT9.map.keep (by rw [← hwc]; exact (Below.heap_setCell _ _ _ _ (by have := HFX.out.ne; simp; omega)).trans (Below.heap_setCell _ _ _ _ (by have := HFX.out.ne; simp; omega))), hT9.ne, hT9.ok⟩
            go_simp
            refine hK.out _ _ hx10 (fun hS => ?_)
            clear hK K' h0 h1 f0 f1 hwc
            try simp only [Act.put, xg0, xg1, xg2, xs0, xs1, xs2]
            refine wpAnyH_ready (rs := [6]) (by kernel_rfl) (by simp) ?_
            refine AllReadyH.cons (o := _) rfl (fun K' hK => ?_) AllReadyH.nil
            have h0 := hg10.cell 0
            have f0 := hg10.free 0
            simp at h0
            obtain ⟨wd, hwd⟩ : ∃ wd, wc.setCell ⟨bg, 0, none⟩ (.int .i64 nn) = wd := ⟨_, rfl⟩
            have hx11 : Blk wd bx #[.int .i64 oW, .int .i64 oA] 48 := by rw [← hwd]; exact hx10.other (by simp; omega) _
            have hb11 : Blk wd bb #[.slice (some ⟨g, 0, none⟩) lx.length c8] 44 := by rw [← hwd]; exact hb10.other (by simp; omega) _
            have ho11 : Blk wd bo #[.int .i64 oW, .int .i64 oA] 48 := by rw [← hwd]; exact ho10.other (by simp; omega) _
            have hg11 : Blk wd bg #[.int .i64 nn] 3 := by
              rw [← hwd]; have := hg10.setCell 0 (.int .i64 nn)
              simpa using this
            have hr11 : Rnd m bb bo bg W wd := by rw [← hwd]; exact hr10.set _ _ (Or.inr (Or.inr rfl))
            have hC11 : Kd.C (Kd.int .i64) wd (some ⟨g, 0, none⟩) lx.length lx := ints_blk (w := wc) (fun ad e _ => by cases e; rw [← hwd]; exact Below.heap_setCell _ _ _ _ (by have := HG8.out; have := HBg.out.lt; simp; omega)) hC10
            have hT11 : Tel wd b m P lv bu A c ss s L3 := by
              have hbb := HFX.out.b
              exact ⟨by rw [← hwd]; exact hT10.blk.other (by simp; omega) _, hT10.map.keep (by rw [← hwd]; exact Below.heap_setCell _ _ _ _ (by have := HFX.out.ne; simp; omega)), hT10.ne, hT10.ok⟩
            go_simp
            refine hK.out _ _ hx11 (fun hS => ?_)
            clear hK K' h0 f0 hwd
            try simp only [Act.put, xg0, xg1, xg2, xs0, xs1, xs2]
            refine wpAnyH_done (by kernel_rfl) ?_ _
            have HR11 := Lib.hid hr11
            have HALL := Lib.hid (And.intro hT11 (And.intro ho11 (And.intro hg11 (And.intro hb11 hC11))))
            clear hS hx11 hb11 ho11 hg11 hr11 hC11 hT11 hx10 hb10 ho10 hg10 hr10 hC10 hT10 hx9 hb9 ho9 hg9 hr9 hC9 hT9
            gi_wp2
            obtain ⟨p1, p2, p3⟩ := rnd_post HFX.out HR11.out HOL.out HWS.out
            have hg0 := HG8.out
            have hsz := HRN.out.size
            exact ⟨p1, p2, p3, BestI.next (st := ⟨lx, oW, oA, nn⟩) HFX.out HI.out HR11.out ⟨L3, HALL.out.1⟩ (by rw [HST.out, if_pos hyes]) HALL.out.2.1 HALL.out.2.2.1 ⟨some ⟨g, 0, none⟩, c8, HALL.out.2.2.2.1, HALL.out.2.2.2.2, HL8.out, fun ad e => by
              cases e
              refine ⟨by have := HWS.out; show _ ≤ g; omega, fun ho => ?_⟩
              have h3 : g < W.heap.size := (HOL.out _ ho).2
              omega, fun e => (by cases e), fun e => (by have := HCH.out.n1; rw [show lx = [] from e] at this; simp at this), HCH.out.inS, HCH.out.n3⟩⟩
          · have hb3 : decide (costV ss lx < costV ss tb) = false := decide_eq_false hc3
            have hno : ¬ (tg < nn ∨ (nn = tg ∧ costV ss lx < costV ss tb)) := fun h => h.elim hc1 (fun h => hc3 h.2)
            clear hc1 hc2 hc3
            refine wpIn_round_held (S := fun w' => w'.cell? ⟨bg, 0, none⟩ = some (.int .i64 tg) ∧ w'.cell? ⟨b1, 0, none⟩ = some (.pointer (some ⟨b, 0, none⟩)) ∧ w'.cell? ⟨b, 0, none⟩ = some (.int .i64 P) ∧ w'.cell? ⟨b, 1, none⟩ = some (.int .i64 lv) ∧ w'.cell? ⟨b, 2, none⟩ = some (.int .i64 bu) ∧ w'.cell? ⟨b, 3, none⟩ = some (.slice A ss.length c) ∧ w'.cell? ⟨bb, 0, none⟩ = some (.slice A' tb.length c') ∧ w'.cell? ⟨bx, 0, none⟩ = some (.int .i64 oW) ∧ w'.cell? ⟨bx, 1, none⟩ = some (.int .i64 oA)) (by kernel_rfl) (by kernel_rfl) (fun _ _ h => h) ⟨zg, zb, t0, t1, t2, t3, zs, z0, z1⟩ (fun hS => ?_)
            refine tk1 0 (.int .i64 nn) rfl (fun w' hSw => by go_simp) hS ?_
            try simp only [Act.put, xg0, xg1, xg2, xs0, xs1, xs2]
            refine tk1 1 (.int .i64 tg) rfl (fun w' hSw => by obtain ⟨h0, h1, h2, h3, h4, h5, h6, h7, h8⟩ := hSw; go_simp) hS ?_
            try simp only [Act.put, xg0, xg1, xg2, xs0, xs1, xs2]
            refine tk1 2 (.bool false) rfl (fun w' hSw => by go_simp) hS ?_
            try simp only [Act.put, xg0, xg1, xg2, xs0, xs1, xs2]
            refine tk1 3 (.bool false) rfl (fun w' hSw => by go_simp) hS ?_
            try simp only [Act.put, xg0, xg1, xg2, xs0, xs1, xs2]
            refine tk1 4 (.int .i64 nn) rfl (fun w' hSw => by go_simp) hS ?_
            try simp only [Act.put, xg0, xg1, xg2, xs0, xs1, xs2]
            refine tk1 5 (.int .i64 tg) rfl (fun w' hSw => by obtain ⟨h0, h1, h2, h3, h4, h5, h6, h7, h8⟩ := hSw; go_simp) hS ?_
            try simp only [Act.put, xg0, xg1, xg2, xs0, xs1, xs2]
            refine tk1 6 (.bool true) rfl (fun w' hSw => by go_simp) hS ?_
            try simp only [Act.put, xg0, xg1, xg2, xs0, xs1, xs2]
            refine tk1 7 (.bool true) rfl (fun w' hSw => by go_simp) hS ?_
            try simp only [Act.put, xg0, xg1, xg2, xs0, xs1, xs2]
            refine tk1 8 (.pointer (some ⟨b, 0, none⟩)) rfl (fun w' hSw => by obtain ⟨h0, h1, h2, h3, h4, h5, h6, h7, h8⟩ := hSw; go_simp) hS ?_
            try simp only [Act.put, xg0, xg1, xg2, xs0, xs1, xs2]
            refine tk1 9 (.pointer (some ⟨b, 0, none⟩)) rfl (fun w' hSw => by obtain ⟨h0, h1, h2, h3, h4, h5, h6, h7, h8⟩ := hSw; go_simp) hS ?_
            try simp only [Act.put, xg0, xg1, xg2, xs0, xs1, xs2]
            refine tk1 10 (.pointer (some ⟨b, 0, none⟩)) rfl (fun w' hSw => by go_simp) hS ?_
            try simp only [Act.put, xg0, xg1, xg2, xs0, xs1, xs2]
            refine tk1 11 (.agg #[.int .i64 P, .int .i64 lv, .int .i64 bu, .slice A ss.length c]) rfl (fun w' hSw => by obtain ⟨h0, h1, h2, h3, h4, h5, h6, h7, h8⟩ := hSw; go_simp) hS ?_
            try simp only [Act.put, xg0, xg1, xg2, xs0, xs1, xs2]
            refine tk1 12 (.slice (some ad1) lx.length c1) rfl (fun w' hSw => by go_simp) hS ?_
            try simp only [Act.put, xg0, xg1, xg2, xs0, xs1, xs2]
            refine tk1 14 (.pointer (some ⟨b, 0, none⟩)) rfl (fun w' hSw => by obtain ⟨h0, h1, h2, h3, h4, h5, h6, h7, h8⟩ := hSw; go_simp) hS ?_
            try simp only [Act.put, xg0, xg1, xg2, xs0, xs1, xs2]
            refine tk1 15 (.pointer (some ⟨b, 0, none⟩)) rfl (fun w' hSw => by obtain ⟨h0, h1, h2, h3, h4, h5, h6, h7, h8⟩ := hSw; go_simp) hS ?_
            try simp only [Act.put, xg0, xg1, xg2, xs0, xs1, xs2]
            refine tk1 16 (.pointer (some ⟨b, 0, none⟩)) rfl (fun w' hSw => by go_simp) hS ?_
            try simp only [Act.put, xg0, xg1, xg2, xs0, xs1, xs2]
            refine tk1 17 (.agg #[.int .i64 P, .int .i64 lv, .int .i64 bu, .slice A ss.length c]) rfl (fun w' hSw => by obtain ⟨h0, h1, h2, h3, h4, h5, h6, h7, h8⟩ := hSw; go_simp) hS ?_
            try simp only [Act.put, xg0, xg1, xg2, xs0, xs1, xs2]
            refine tk1 18 (.slice A' tb.length c') rfl (fun w' hSw => by obtain ⟨h0, h1, h2, h3, h4, h5, h6, h7, h8⟩ := hSw; go_simp) hS ?_
            try simp only [Act.put, xg0, xg1, xg2, xs0, xs1, xs2]
            refine wpAnyH_ready (rs := [13]) (by kernel_rfl) (by simp) ?_
            refine AllReadyH.cons (o := _) rfl (fun K' hK => ?_) AllReadyH.nil
            go_simp
            refine (camp_cost.calls 20 P lv bu A c ss (some ad1) c1 lx (costV ss lx) _ (Kd.C_below HSI.out (Below.refl W2.heap.size W2).drew.drew) hc (Kd.C_below HLX.out (Below.refl W2.heap.size W2).drew.drew) HL1.out (cost_ok HG.out HCH.out.inS (by have := HCH.out.n3; have := HG5.out.2.2.2.2; omega) (by have := HCH.out.n3; have := HG5.out.2.2.2.2; omega))).mono ?_
            rintro e6 w6 ⟨rfl, hb6⟩
            go_wp2_with fail
            have HB6 := Lib.hid (show Below W2.heap.size W2 w6 from ((Below.refl W2.heap.size W2).drew.drew).trans (hb6.mono ((Below.refl W2.heap.size W2).drew.drew).size))
            obtain ⟨h0, h1, h2, h3, h4, h5, h6, h7, h8⟩ := hS
            refine hK.out _ _ ⟨kbc hb6 h0, kbc hb6 h1, kbc hb6 h2, kbc hb6 h3, kbc hb6 h4, kbc hb6 h5, kbc hb6 h6, kbc hb6 h7, kbc hb6 h8⟩ (fun hS => ?_)
            clear hK K' hb6 h0 h1 h2 h3 h4 h5 h6 h7 h8
            try simp only [Act.put, xg0, xg1, xg2, xs0, xs1, xs2]
            refine wpAnyH_ready (rs := [19]) (by kernel_rfl) (by simp) ?_
            refine AllReadyH.cons (o := _) rfl (fun K' hK => ?_) AllReadyH.nil
            go_simp
            refine (camp_cost.calls 20 P lv bu A c ss A' c' tb (costV ss tb) _ (Kd.C_below HSI.out HB6.out) hc (Kd.C_below HGB.out HB6.out) HG3.out (cost_ok HG.out HG5.out.2.2.2.1 (by have := HCH.out.n3; have := HG5.out.2.2.2.2; omega) (by have := HCH.out.n3; have := HG5.out.2.2.2.2; omega))).mono ?_
            rintro e7 w7 ⟨rfl, hb7⟩
            go_wp2_with fail
            have HB7 := Lib.hid (show Below W2.heap.size W2 w7 from (HB6.out).trans (hb7.mono (HB6.out).size))
            obtain ⟨h0, h1, h2, h3, h4, h5, h6, h7, h8⟩ := hS
            refine hK.out _ _ ⟨kbc hb7 h0, kbc hb7 h1, kbc hb7 h2, kbc hb7 h3, kbc hb7 h4, kbc hb7 h5, kbc hb7 h6, kbc hb7 h7, kbc hb7 h8⟩ (fun hS => ?_)
            clear hK K' hb7 h0 h1 h2 h3 h4 h5 h6 h7 h8
            try simp only [Act.put, xg0, xg1, xg2, xs0, xs1, xs2]
            refine tk1 20 (.bool false) rfl (fun w' hSw => by go_simp) hS ?_
            try simp only [Act.put, xg0, xg1, xg2, xs0, xs1, xs2]
            refine tk1 21 (.bool false) rfl (fun w' hSw => by go_simp) hS ?_
            try simp only [Act.put, xg0, xg1, xg2, xs0, xs1, xs2]
            refine tk1 22 (.bool false) rfl (fun w' hSw => by go_simp) hS ?_
            try simp only [Act.put, xg0, xg1, xg2, xs0, xs1, xs2]
            refine wpAnyH_done (by kernel_rfl) ?_ _
            clear HB6
            have HBo7 := Lib.hid (HBo.out.below HB7.out HBo.out.lt)
            have HBg7 := Lib.hid (HBg.out.below HB7.out HBg.out.lt)
            have HBb7 := Lib.hid (HBb.out.below HB7.out HBb.out.lt)
            have HRN7 := Lib.hid (HRN.out.then_below HB7.out)
            clear hS zg zb t0 t1 t2 t3 zs z0 z1 zN
            gi_wp2
            obtain ⟨p1, p2, p3⟩ := rnd_post HFX.out HRN7.out HOL.out HWS.out
            exact ⟨p1, p2, p3, BestI.next HFX.out HI.out HRN7.out ⟨L3, HTEL.out.below HB7.out⟩ (by rw [HST.out, if_neg hno]) HBo7.out HBg7.out ⟨A', c', HBb7.out, Kd.C_below HGB.out HB7.out, HG3.out, HG5.out.1, HG5.out.2.1, HG5.out.2.2.1, HG5.out.2.2.2.1, HG5.out.2.2.2.2⟩⟩
        · have hb2 : (nn == tg) = false := by simp [hc2]
          have hno : ¬ (tg < nn ∨ (nn = tg ∧ costV ss lx < costV ss tb)) := fun h => h.elim hc1 (fun h => hc2 h.1)
          clear hc1 hc2
          refine wpIn_round_held (S := fun w' => w'.cell? ⟨bg, 0, none⟩ = some (.int .i64 tg) ∧ w'.cell? ⟨b1, 0, none⟩ = some (.pointer (some ⟨b, 0, none⟩)) ∧ w'.cell? ⟨b, 0, none⟩ = some (.int .i64 P) ∧ w'.cell? ⟨b, 1, none⟩ = some (.int .i64 lv) ∧ w'.cell? ⟨b, 2, none⟩ = some (.int .i64 bu) ∧ w'.cell? ⟨b, 3, none⟩ = some (.slice A ss.length c) ∧ w'.cell? ⟨bb, 0, none⟩ = some (.slice A' tb.length c') ∧ w'.cell? ⟨bx, 0, none⟩ = some (.int .i64 oW) ∧ w'.cell? ⟨bx, 1, none⟩ = some (.int .i64 oA)) (by kernel_rfl) (by kernel_rfl) (fun _ _ h => h) ⟨zg, zb, t0, t1, t2, t3, zs, z0, z1⟩ (fun hS => ?_)
          refine tk1 0 (.int .i64 nn) rfl (fun w' hSw => by go_simp) hS ?_
          try simp only [Act.put, xg0, xg1, xg2, xs0, xs1, xs2]
          refine tk1 1 (.int .i64 tg) rfl (fun w' hSw => by obtain ⟨h0, h1, h2, h3, h4, h5, h6, h7, h8⟩ := hSw; go_simp) hS ?_
          try simp only [Act.put, xg0, xg1, xg2, xs0, xs1, xs2]
          refine tk1 2 (.bool false) rfl (fun w' hSw => by go_simp) hS ?_
          try simp only [Act.put, xg0, xg1, xg2, xs0, xs1, xs2]
          refine tk1 3 (.bool false) rfl (fun w' hSw => by go_simp) hS ?_
          try simp only [Act.put, xg0, xg1, xg2, xs0, xs1, xs2]
          refine tk1 4 (.int .i64 nn) rfl (fun w' hSw => by go_simp) hS ?_
          try simp only [Act.put, xg0, xg1, xg2, xs0, xs1, xs2]
          refine tk1 5 (.int .i64 tg) rfl (fun w' hSw => by obtain ⟨h0, h1, h2, h3, h4, h5, h6, h7, h8⟩ := hSw; go_simp) hS ?_
          try simp only [Act.put, xg0, xg1, xg2, xs0, xs1, xs2]
          refine tk1 6 (.bool false) rfl (fun w' hSw => by go_simp) hS ?_
          try simp only [Act.put, xg0, xg1, xg2, xs0, xs1, xs2]
          refine tk1 7 (.bool false) rfl (fun w' hSw => by go_simp) hS ?_
          try simp only [Act.put, xg0, xg1, xg2, xs0, xs1, xs2]
          refine tk2 8 rfl hS ?_
          try simp only [Act.put, xg0, xg1, xg2, xs0, xs1, xs2]
          refine tk2 9 rfl hS ?_
          try simp only [Act.put, xg0, xg1, xg2, xs0, xs1, xs2]
          refine tk2 10 rfl hS ?_
          try simp only [Act.put, xg0, xg1, xg2, xs0, xs1, xs2]
          refine tk2 11 rfl hS ?_
          try simp only [Act.put, xg0, xg1, xg2, xs0, xs1, xs2]
          refine tk2 12 rfl hS ?_
          try simp only [Act.put, xg0, xg1, xg2, xs0, xs1, xs2]
          refine tk2 14 rfl hS ?_
          try simp only [Act.put, xg0, xg1, xg2, xs0, xs1, xs2]
          refine tk2 15 rfl hS ?_
          try simp only [Act.put, xg0, xg1, xg2, xs0, xs1, xs2]
          refine tk2 16 rfl hS ?_
          try simp only [Act.put, xg0, xg1, xg2, xs0, xs1, xs2]
          refine tk2 17 rfl hS ?_
          try simp only [Act.put, xg0, xg1, xg2, xs0, xs1, xs2]
          refine tk2 18 rfl hS ?_
          try simp only [Act.put, xg0, xg1, xg2, xs0, xs1, xs2]
          refine wpAnyH_ready (rs := [13]) (by kernel_rfl) (by simp) ?_
          refine AllReadyH.cons (o := _) rfl (fun K' hK => ?_) AllReadyH.nil
          go_simp
          refine hK.out _ _ hS (fun hS => ?_)
          clear hK K'
          try simp only [Act.put, xg0, xg1, xg2, xs0, xs1, xs2]
          refine wpAnyH_ready (rs := [19]) (by kernel_rfl) (by simp) ?_
          refine AllReadyH.cons (o := _) rfl (fun K' hK => ?_) AllReadyH.nil
          go_simp
          refine hK.out _ _ hS (fun hS => ?_)
          clear hK K'
          try simp only [Act.put, xg0, xg1, xg2, xs0, xs1, xs2]
          refine tk2 20 rfl hS ?_
          try simp only [Act.put, xg0, xg1, xg2, xs0, xs1, xs2]
          refine tk1 21 (.bool false) rfl (fun w' hSw => by go_simp) hS ?_
          try simp only [Act.put, xg0, xg1, xg2, xs0, xs1, xs2]
          refine tk1 22 (.bool false) rfl (fun w' hSw => by go_simp) hS ?_
          try simp only [Act.put, xg0, xg1, xg2, xs0, xs1, xs2]
          refine wpAnyH_done (by kernel_rfl) ?_ _
          have HB7 : Hid (Below W2.heap.size W2 W2.drew.drew) := Lib.hid (Below.refl W2.heap.size W2).drew.drew
          have HBo7 := Lib.hid (HBo.out.below HB7.out HBo.out.lt)
          have HBg7 := Lib.hid (HBg.out.below HB7.out HBg.out.lt)
          have HBb7 := Lib.hid (HBb.out.below HB7.out HBb.out.lt)
          have HRN7 := Lib.hid (HRN.out.then_below HB7.out)
          clear hS zg zb t0 t1 t2 t3 zs z0 z1 zN
          gi_wp2
          obtain ⟨p1, p2, p3⟩ := rnd_post HFX.out HRN7.out HOL.out HWS.out
          exact ⟨p1, p2, p3, BestI.next HFX.out HI.out HRN7.out ⟨L3, HTEL.out.below HB7.out⟩ (by rw [HST.out, if_neg hno]) HBo7.out HBg7.out ⟨A', c', HBb7.out, Kd.C_below HGB.out HB7.out, HG3.out, HG5.out.1, HG5.out.2.1, HG5.out.2.2.1, HG5.out.2.2.2.1, HG5.out.2.2.2.2⟩⟩
    case done =>
      intro D O xs W hD hS hI hK
      obtain ⟨A', c', g1, g2, g3, g4, g5, g6, g7, g8⟩ := hI.bxb
      have hbo := hI.bxo
      have hbr := hI.bxr
      have hbel := hI.bel
      rw [hS] at g1 g2 g3 g5 g6 hbo
      obtain ⟨l1, l2, l3, l4, l5, l6, l7, l8, l9⟩ := HFX.out.lt
      have hBr := HFX.out.B1.1
      generalize hst2 : bestOf P s ss lv N (choicesL ss bu) = st at *
      obtain ⟨tb, tw, ta, tg⟩ := st
      have HST2 := Lib.hid hst2
      simp only at g1 g2 g3 g5 g6 hbo
      have HG2 := Lib.hid g2
      have HG3 := Lib.hid (And.intro g3 (And.intro g5 g6))
      have HBR := Lib.hid hbr
      have HBL := Lib.hid hbel
      have HD := Lib.hid hD
      have HDF := Lib.hid hK
      have HA := Lib.hid g4
      have zs := g1.cell 0
      have z0 := hbo.cell 0
      have z1 := hbo.cell 1
      simp at zs z0 z1
      have hbr2 : br < w2.heap.size := l4
      have HBRR := Lib.hid hBr
      have HLEN := Lib.hid hbr.lt
      clear hst2 hS hI hK g1 g2 g3 g4 g5 g6 g7 g8 hbo hbr hbel l1 l2 l3 l4 l5 l6 l7 l8 l9 hD hBr
      simp only []
      go_wp2_with fail
      refine' region_to ?reg2 ?rest2
      case reg2 =>
        refine wp_region_held_drew (S := fun w' => (∃ x y : Int, Blk w' br #[.int .i64 x, .int .i64 y] 48) ∧ w'.cell? ⟨bb, 0, none⟩ = some (.slice A' tb.length c') ∧ w'.cell? ⟨bo, 0, none⟩ = some (.int .i64 tw) ∧ w'.cell? ⟨bo, 1, none⟩ = some (.int .i64 ta)) (by kernel_rfl) ⟨⟨_, _, HBR.out.drew⟩, zs, z0, z1⟩ (fun hS => ?_)
        refine tk1 0 (.slice A' tb.length c') rfl (fun w' hSw => by obtain ⟨_, h0, h1, h2⟩ := hSw; go_simp) hS ?_
        try simp only [Act.put, xg0, xg1, xg2, xs0, xs1, xs2]
        refine tk1 1 (.agg #[.int .i64 tw, .int .i64 ta]) rfl (fun w' hSw => by obtain ⟨_, h0, h1, h2⟩ := hSw; go_simp) hS ?_
        try simp only [Act.put, xg0, xg1, xg2, xs0, xs1, xs2]
        refine tk1 2 (.slice A' tb.length c') rfl (fun w' hSw => by go_simp) hS ?_
        try simp only [Act.put, xg0, xg1, xg2, xs0, xs1, xs2]
        refine wpAnyH_ready (rs := [3]) (by kernel_rfl) (by simp) ?_
        refine AllReadyH.cons (o := _) rfl (fun K' hK => ?_) AllReadyH.nil
        have p0 := HBR.out.cell 0
        have p1 := HBR.out.cell 1
        have f0 := HBR.out.free 0
        have f1 := HBR.out.free 1
        simp at p0 p1
        have hbw : Blk ((W.setCell ⟨br, 0, none⟩ (.int .i64 tw)).setCell ⟨br, 1, none⟩ (.int .i64 ta)).drew br #[.int .i64 tw, .int .i64 ta] 48 := by
          have := ((HBR.out.setCell 0 (.int .i64 tw)).setCell 1 (.int .i64 ta)).drew
          simpa using this
        have hq : br ≠ bb ∧ br ≠ bo := by have := HFX.out.d; omega
        have q0 : ((W.setCell ⟨br, 0, none⟩ (.int .i64 tw)).setCell ⟨br, 1, none⟩ (.int .i64 ta)).drew.cell? ⟨bb, 0, none⟩ = some (.slice A' tb.length c') := by
          rw [← zs]
          exact (World.cell?_setCell_far _ _ _ _ hq.1).trans (World.cell?_setCell_far _ _ _ _ hq.1)
        have q1 : ((W.setCell ⟨br, 0, none⟩ (.int .i64 tw)).setCell ⟨br, 1, none⟩ (.int .i64 ta)).drew.cell? ⟨bo, 0, none⟩ = some (.int .i64 tw) := by
          rw [← z0]
          exact (World.cell?_setCell_far _ _ _ _ hq.2).trans (World.cell?_setCell_far _ _ _ _ hq.2)
        have q2 : ((W.setCell ⟨br, 0, none⟩ (.int .i64 tw)).setCell ⟨br, 1, none⟩ (.int .i64 ta)).drew.cell? ⟨bo, 1, none⟩ = some (.int .i64 ta) := by
          rw [← z1]
          exact (World.cell?_setCell_far _ _ _ _ hq.2).trans (World.cell?_setCell_far _ _ _ _ hq.2)
        have HQS := Lib.hid (And.intro (show ∃ x y : Int, Blk _ br #[.int .i64 x, .int .i64 y] 48 from ⟨_, _, hbw⟩) (And.intro q0 (And.intro q1 q2)))
        clear hbw q0 q1 q2
        go_simp
        refine hK.out _ _ HQS.out (fun hS => ?_)
        clear hK K'
        try simp only [Act.put, xg0, xg1, xg2, xs0, xs1, xs2]
        refine wpAnyH_done (by kernel_rfl) ?_ _
        exact ⟨rfl, rfl⟩
      case rest2 =>
        obtain ⟨wf, hwf⟩ : ∃ wf, ((W.setCell ⟨br, 0, none⟩ (.int .i64 tw)).setCell ⟨br, 1, none⟩ (.int .i64 ta)).drew = wf := ⟨_, rfl⟩
        have hbF : Blk wf br #[.int .i64 tw, .int .i64 ta] 48 := by
          rw [← hwf]
          have := ((HBR.out.setCell 0 (.int .i64 tw)).setCell 1 (.int .i64 ta)).drew
          simpa using this
        have hf : Below B W wf := by
          rw [← hwf]
          exact (((Below.refl B W).setCell (p := ⟨br, 0, none⟩) (by have := HBRR.out; simpa using this) _).setCell (p := ⟨br, 1, none⟩) (by have := HBRR.out; simpa using this) _).drew
        have hDb : (⟨br, 0, none⟩ : Addr).block ≠ D := by have := HD.out; simp; omega
        have hDb1 : (⟨br, 1, none⟩ : Addr).block ≠ D := by have := HD.out; simp; omega
        have hKd : wf.heap[D]? = some (.deferred (some [])) := by
          rw [← hwf]
          show ((W.setCell ⟨br, 0, none⟩ (.int .i64 tw)).setCell ⟨br, 1, none⟩ (.int .i64 ta)).heap[D]? = _
          exact (Below.heap_setCell _ _ _ _ hDb1.symm).trans ((Below.heap_setCell _ _ _ _ hDb.symm).trans HDF.out)
        have hgr : ∀ ad, A' = some ad → 0 < tb.length → (wf.putObj D (.deferred none)).heap[ad.block]? = W.heap[ad.block]? := fun ad e hn => by
          have h1 := (HA.out ad e).1
          subst e
          obtain ⟨o, ho, hoc⟩ := ints_lt HG2.out hn
          have hne : ad.block ≠ D := fun e2 => by rw [e2, HDF.out] at ho; cases ho; cases hoc
          rw [World.putObj_heap_other hne, ← hwf]
          show ((W.setCell ⟨br, 0, none⟩ (.int .i64 tw)).setCell ⟨br, 1, none⟩ (.int .i64 ta)).heap[ad.block]? = _
          exact (Below.heap_setCell _ _ _ _ (by simp; omega)).trans (Below.heap_setCell _ _ _ _ (by simp; omega))
        have HFIN := Lib.hid (And.intro (ints_blk (w := W) (w' := wf.putObj D (.deferred none)) hgr HG2.out) (HBL.out.trans (hf.trans (below_put wf (.deferred none) (show B ≤ D by have := HD.out; have := HBRR.out; omega)))))
        have hbP : Blk (wf.putObj D (.deferred none)) br #[.int .i64 tw, .int .i64 ta] 48 := (World.putObj_heap_other hDb).trans hbF
        have HKD := Lib.hid hKd
        have HBP := Lib.hid hbP
        clear hbF hf hKd hbP hgr zs z0 z1 hDb hDb1
        go_wp2
        rw [hwf]
        refine ⟨by simp, .inl ⟨_, _, rfl, run_takeDeferred HKD.out, ⟨_, results_tc rfl _ _ br 48 _ (0, 0) _ rfl HBP.out Try.underlying48 rfl (by kernel_rfl), ?_⟩⟩⟩
        unfold BestDone
        rw [HST2.out]
        exact ⟨A', c', rfl, HFIN.out.1, HG3.out.1, HG3.out.2.1, HG3.out.2.2, HFIN.out.2, fun ad e => by have h1 := (HA.out ad e).1; have h2 := HFX.out.lt; have h3 := HGB1.out; omega⟩
end Go.Proofs.Yteigcddmbpfahaa.Cn
