import Derived.Test.YteigcddmbpfahaaM1
import Derived.Test.YteigcddmbpfahaaTk
namespace Go.Proofs.Yteigcddmbpfahaa.Cn
set_option linter.unusedVariables false
set_option linter.unusedSimpArgs false
open Go.RowKit Go.Proofs.YteigcddmbpfahaaW.PrintWords Go.Proofs.YteigcddmbpfahaaW.PrintLast Go.Proofs.YteigcddmbpfahaaW.PrintMore Go.Proofs.Yteigcddmbpfahaa.Pc
def chK (P sl : Int) (ss : List S58) (k : Int × Int × Bool) : Int × Int × Int × Int × Int :=
  (count_Power.f sl P k.2.1 (if k.2.2 then (rd_T58 ss k.1).f1 else (rd_T58 ss k.1).f3) (rd_T58 ss k.1).f1 (rd_T58 ss k.1).f2).getD (0, 0, 0, 0, 0)
def chV (P sl : Int) (ss : List S58) (k : Int × Int × Bool) : Value :=
  .agg #[.int .i64 (chK P sl ss k).1, .int .i64 (chK P sl ss k).2.1, .int .i64 (chK P sl ss k).2.2.1, .int .i64 (chK P sl ss k).2.2.2.1]
theorem power_some (a0 a1 a2 a3 a4 a5 : Int) : ∃ r1 r2 r3 r4 r5, count_Power.f a0 a1 a2 a3 a4 a5 = some (r1, r2, r3, r4, r5) := by
  unfold count_Power.f
  split
  · split
    · exact ⟨_, _, _, _, _, rfl⟩
    · exact ⟨_, _, _, _, _, rfl⟩
  · exact ⟨_, _, _, _, _, rfl⟩

structure Tel (w : World) (b m : Nat) (P lv bu : Int) (A : Option Addr) (c : Nat) (ss : List S58) (sl : Int) (L : List ((Int × Int × Bool) × Value)) : Prop where
  blk : Blk w b #[.int .i64 P, .int .i64 lv, .int .i64 bu, .slice A ss.length c, .int .i64 sl, .map (some m)] 126
  map : MapAt encS w m L
  ne : b ≠ m
  ok : ∀ k v, asc k L = some v → v = chV P sl ss k
theorem Tel.below {w w' : World} {b m : Nat} {P lv bu : Int} {A : Option Addr} {c : Nat} {ss : List S58} {sl : Int} {L : List ((Int × Int × Bool) × Value)} (h : Tel w b m P lv bu A c ss sl L) (hb : Below w.heap.size w w') : Tel w' b m P lv bu A c ss sl L :=
  ⟨h.blk.below hb h.blk.lt, h.map.below hb, h.ne, h.ok⟩
theorem zero_chances (w : World) : (zeroValue 132).run Try.prog w = .ok (.agg #[.int .i64 0, .int .i64 0, .int .i64 0, .int .i64 0]) w := by
  simp [go_sem]
theorem But.cell {m : Nat} {w w' : World} (h : But m w w') {α : Type} {enc : α → Value} {L : List (α × Value)} (hm : MapAt enc w m L) {p : Addr} {v : Value} (hc : w.cell? p = some v) : w'.cell? p = some v := by
  obtain ⟨es, ck, h1, -⟩ := hm
  have hl := World.block_lt_of_cell? w p hc
  have hne : p.block ≠ m := fun e => by
    obtain ⟨o, ho, hoc⟩ := cells_of_cell hc
    rw [e, h1] at ho
    cases ho
    cases hoc
  unfold World.cell? at hc ⊢
  rw [h.block _ hl hne]
  exact hc
theorem C_cells {α : Type} {d : Kd α} {w w' : World} {A : Option Addr} {n : Nat} {xs : List α} (hd : ∀ x cs, d.K w x cs → d.K w' x cs) (hc : ∀ p u, w.cell? p = some u → w'.cell? p = some u) (h : Kd.C d w A n xs) : Kd.C d w' A n xs := by
  obtain ⟨h1, h2, h3⟩ := h
  refine ⟨h1, h2, fun hn => ?_⟩
  obtain ⟨ad, e, hr⟩ := h3 hn
  refine ⟨ad, e, fun j p hp => ?_⟩
  obtain ⟨cs, hl, hk, hcs⟩ := hr j p hp
  exact ⟨cs, hl, hd _ _ hk, fun i u hu => hc _ _ (hcs i u hu)⟩
theorem sites_but {m : Nat} {w w' : World} (h : But m w w') {L : List ((Int × Int × Bool) × Value)} (hm : MapAt encS w m L) {A : Option Addr} {n : Nat} {ss : List S58} (hc : Kd.C k58 w A n ss) : Kd.C k58 w' A n ss :=
  C_cells (w := w) (w' := w') (fun x cs hk => by rw [k58_open hk]; exact k58_mk w' x) (fun p u hu => h.cell hm hu) hc
theorem ints_but {m : Nat} {w w' : World} (h : But m w w') {L : List ((Int × Int × Bool) × Value)} (hm : MapAt encS w m L) {A : Option Addr} {n : Nat} {xs : List Int} (hc : Kd.C (Kd.int .i64) w A n xs) : Kd.C (Kd.int .i64) w' A n xs :=
  C_cells (w := w) (w' := w') (fun x cs hk => hk) (fun p u hu => h.cell hm hu) hc

set_option maxRecDepth 100000 in
set_option maxHeartbeats 4000000 in
theorem chances_calls (b m : Nat) (P lv bu : Int) (A : Option Addr) (c : Nat) (ss : List S58) (sl : Int) (L : List ((Int × Int × Bool) × Value)) (i l : Int) (e : Bool) (w : World)
    (ht : Tel w b m P lv bu A c ss sl L) (hr : Kd.C k58 w A ss.length ss) (hi : 0 ≤ i) (hi1 : i < ss.length) :
    Calls Try.prog 66 #[.pointer (some ⟨b, 0, none⟩), .agg #[.int .i64 i, .int .i64 l, .bool e]] w fun x w' => x = .returned (chV P sl ss (i, l, e)) ∧ But m w w' ∧ ∃ L', Tel w' b m P lv bu A c ss sl L' := by
  obtain ⟨K, rfl⟩ := Int.eq_ofNat_of_zero_le hi
  have HT := Lib.hid ht
  have HC := Lib.hid hr
  obtain ⟨wa, hwa⟩ : ∃ wa, (w.alloc (.cells #[.int .i64 (K : Int), .int .i64 l, .bool e] 135 (0, 0))).alloc (.cells #[.int .i64 0, .int .i64 0, .int .i64 0, .int .i64 0] 132 (0, 0)) = wa := ⟨_, rfl⟩
  have hwb : Below w.heap.size w wa := by rw [← hwa]; exact ((Below.refl w.heap.size w).alloc (Nat.le_refl _) _).alloc (by simp) _
  have hb3 : Blk wa w.heap.size #[.int .i64 (K : Int), .int .i64 l, .bool e] 135 := by rw [← hwa]; exact (Blk.new w _ _).alloc _
  have hb4 : Blk wa (w.heap.size + 1) #[.int .i64 0, .int .i64 0, .int .i64 0, .int .i64 0] 132 := by
    rw [← hwa]
    have := Blk.new (w.alloc (.cells #[.int .i64 (K : Int), .int .i64 l, .bool e] 135 (0, 0))) #[.int .i64 0, .int .i64 0, .int .i64 0, .int .i64 0] 132
    simpa using this
  have hsz : wa.heap.size = w.heap.size + 2 := by rw [← hwa]; simp
  have ht1 := ht.below hwb
  have y0 := ht1.blk.cell 0
  have y3 := ht1.blk.cell 3
  have y4 := ht1.blk.cell 4
  have y5 := ht1.blk.cell 5
  have x0 := hb3.cell 0
  have x1 := hb3.cell 1
  have x2 := hb3.cell 2
  simp at y0 y3 y4 y5 x0 x1 x2
  have HW := Lib.hid hwb
  have HB3 := Lib.hid hb3
  have HB4 := Lib.hid hb4
  have HT1 := Lib.hid ht1
  have HSZ := Lib.hid hsz
  clear ht hr hwb hb3 hb4 ht1 hsz
  rcases ha : asc ((K : Int), l, e) L with _ | v
  · have hlk : ∀ w' : World, Below wa.heap.size wa w' → (Instr.lookup 124 (.map (some m)) (.agg #[.int .i64 (K : Int), .int .i64 l, .bool e]) true).run Try.prog w' = .ok (.tuple #[.agg #[.int .i64 0, .int .i64 0, .int .i64 0, .int .i64 0], .bool false]) w' := fun w' hb => look_none (enc := encS) key_site Try.underlying124 (zero_chances w') (HT1.out.map.below hb) ha
    have HLK := Lib.hid hlk
    have HA := Lib.hid ha
    clear hlk ha
    obtain ⟨ad, hA, q0, q1, q2, q3⟩ := at_T58 (Kd.C_below HC.out HW.out) (K : Int) (by omega) hi1
    subst hA
    simp only [Int.toNat_natCast] at q0 q1 q2 q3
    have hi2 : K < ss.length := by omega
    generalize hsite : rd_T58 ss (K : Int) = site at *
    obtain ⟨s0, s1, s2, s3⟩ := site
    simp only at q0 q1 q2 q3
    cases e
    · obtain ⟨r1, r2, r3, r4, r5, hP⟩ := power_some sl P l s3 s1 s2
      have hch : chV P sl ss ((K : Int), l, false) = .agg #[.int .i64 r1, .int .i64 r2, .int .i64 r3, .int .i64 r4] := by
        simp only [chV, chK, hsite, hP, Option.getD_some, if_true, if_false, Bool.false_eq_true]
      rw [hch]
      have HCH := Lib.hid hch
      have HP := Lib.hid (fun wx => count_Power.calls sl P l s3 s1 s2 r1 r2 r3 r4 r5 wx hP)
      have HSI := Lib.hid hsite
      clear hch hP hsite
      go_enter Try.func66, Try.ntmps66
      go_wp2_with fail
      clear hwa
      refine wp_region_held_drew (S := fun w' => Below wa.heap.size wa w') (by kernel_rfl) (Below.refl wa.heap.size wa).drew (fun hS => ?_)
      refine tk1 0 (.pointer (some ⟨b, 0, none⟩)) rfl (fun w' hSw => by go_simp) hS ?_
      try simp only [Act.put, xs0, xs1, xs2]
      refine tk1 1 (.pointer (some ⟨b, 0, none⟩)) rfl (fun w' hSw => by have z_y5 := kbc hSw y5; go_simp) hS ?_
      try simp only [Act.put, xs0, xs1, xs2]
      refine tk1 2 (.pointer (some ⟨b, 5, none⟩)) rfl (fun w' hSw => by go_simp) hS ?_
      try simp only [Act.put, xs0, xs1, xs2]
      refine tk1 3 (.map (some m)) rfl (fun w' hSw => by have z_y5 := kbc hSw y5; go_simp) hS ?_
      try simp only [Act.put, xs0, xs1, xs2]
      refine tk1 4 (.agg #[.int .i64 (K : Int), .int .i64 l, .bool false]) rfl (fun w' hSw => by have z_x0 := kbc hSw x0; have z_x1 := kbc hSw x1; have z_x2 := kbc hSw x2; go_simp) hS ?_
      try simp only [Act.put, xs0, xs1, xs2]
      refine tk1 5 (.tuple #[.agg #[.int .i64 0, .int .i64 0, .int .i64 0, .int .i64 0], .bool false]) rfl (fun w' hSw => by have zl := HLK.out w' hSw; go_simp) hS ?_
      try simp only [Act.put, xs0, xs1, xs2]
      refine tk1 6 (.tuple #[.agg #[.int .i64 0, .int .i64 0, .int .i64 0, .int .i64 0], .bool false]) rfl (fun w' hSw => by go_simp) hS ?_
      try simp only [Act.put, xs0, xs1, xs2]
      refine tk1 7 (.agg #[.int .i64 0, .int .i64 0, .int .i64 0, .int .i64 0]) rfl (fun w' hSw => by go_simp) hS ?_
      try simp only [Act.put, xs0, xs1, xs2]
      refine tk1 8 (.bool false) rfl (fun w' hSw => by go_simp) hS ?_
      try simp only [Act.put, xs0, xs1, xs2]
      refine wpAnyH_ready (rs := [9]) (by kernel_rfl) (by simp) ?_
      refine AllReadyH.cons (o := _) rfl (fun K' hK => ?_) AllReadyH.nil
      go_simp
      obtain ⟨wb, hwb⟩ : ∃ wb, (wa.alloc (.cells #[.int .i64 0, .int .i64 0, .int .i64 0, .int .i64 0] 132 (0, 0))).drew = wb := ⟨_, rfl⟩
      have hbb : Below wa.heap.size wa wb := by rw [← hwb]; exact ((Below.refl wa.heap.size wa).alloc (Nat.le_refl _) _).drew
      have hb5 : Blk wb wa.heap.size #[.int .i64 0, .int .i64 0, .int .i64 0, .int .i64 0] 132 := by rw [← hwb]; exact (Blk.new wa _ _).drew
      rw [hwb]
      refine hK.out _ _ hbb (fun hS => ?_)
      clear hK K'
      try simp only [Act.put, xs0, xs1, xs2]
      refine wpAnyH_ready (rs := [10]) (by kernel_rfl) (by simp) ?_
      refine AllReadyH.cons (o := _) rfl (fun K' hK => ?_) AllReadyH.nil
      have q0 := hb5.cell 0
      have q1 := hb5.cell 1
      have q2 := hb5.cell 2
      have q3 := hb5.cell 3
      have f0 := hb5.free 0
      have f1 := hb5.free 1
      have f2 := hb5.free 2
      have f3 := hb5.free 3
      simp at q0 q1 q2 q3
      go_simp
      obtain ⟨wc, hwc⟩ : ∃ wc, (((wb.setCell ⟨wa.heap.size, 0, none⟩ (.int .i64 0)).setCell ⟨wa.heap.size, 1, none⟩ (.int .i64 0)).setCell ⟨wa.heap.size, 2, none⟩ (.int .i64 0)).setCell ⟨wa.heap.size, 3, none⟩ (.int .i64 0) = wc := ⟨_, rfl⟩
      have hbc : Below wa.heap.size wa wc := by rw [← hwc]; exact below_four _ _ _ _ hbb (Nat.le_refl _)
      have hc5 : Blk wc wa.heap.size #[.int .i64 0, .int .i64 0, .int .i64 0, .int .i64 0] 132 := by rw [← hwc]; exact blk_four _ _ _ _ hb5
      rw [hwc]
      refine hK.out _ _ hbc (fun hS => ?_)
      clear hK K' hwc hwb hb5 q0 q1 q2 q3 f0 f1 f2 f3
      try simp only [Act.put, xs0, xs1, xs2]
      refine tk1 11 (.bool false) rfl (fun w' hSw => by go_simp) hS ?_
      try simp only [Act.put, xs0, xs1, xs2]
      refine wpAnyH_done (by kernel_rfl) ?_ _
      have HBC := Lib.hid hbc
      have HC5 := Lib.hid hc5
      clear hS hbc hc5 hbb
      go_wp2_with fail
      refine wp_region_held_drew (S := fun w' => Below wa.heap.size wa w') (by kernel_rfl) HBC.out.drew (fun hS => ?_)
      refine tk1 0 (.pointer (some ⟨b, 0, none⟩)) rfl (fun w' hSw => by go_simp) hS ?_
      try simp only [Act.put, xs0, xs1, xs2]
      refine tk1 1 (.pointer (some ⟨b, 0, none⟩)) rfl (fun w' hSw => by have z_y5 := kbc hSw y5; go_simp) hS ?_
      try simp only [Act.put, xs0, xs1, xs2]
      refine tk1 2 (.pointer (some ⟨b, 0, none⟩)) rfl (fun w' hSw => by go_simp) hS ?_
      try simp only [Act.put, xs0, xs1, xs2]
      refine tk1 3 (.pointer (some ⟨b, 3, none⟩)) rfl (fun w' hSw => by go_simp) hS ?_
      try simp only [Act.put, xs0, xs1, xs2]
      refine tk1 4 (.slice (some ad) ss.length c) rfl (fun w' hSw => by have z_y3 := kbc hSw y3; go_simp) hS ?_
      try simp only [Act.put, xs0, xs1, xs2]
      refine tk1 5 (.pointer (some ⟨w.heap.size, 0, none⟩)) rfl (fun w' hSw => by go_simp) hS ?_
      try simp only [Act.put, xs0, xs1, xs2]
      refine tk1 6 (.int .i64 (K : Int)) rfl (fun w' hSw => by have z_x0 := kbc hSw x0; go_simp) hS ?_
      try simp only [Act.put, xs0, xs1, xs2]
      refine tk1 7 (.pointer (some (ad.add (K * 4)))) rfl (fun w' hSw => by go_simp) hS ?_
      try simp only [Act.put, xs0, xs1, xs2]
      refine tk1 8 (.agg #[.int .i64 s0, .int .i64 s1, .int .i64 s2, .int .i64 s3]) rfl (fun w' hSw => by have z_q0 := kbc hSw q0; have z_q1 := kbc hSw q1; have z_q2 := kbc hSw q2; have z_q3 := kbc hSw q3; go_simp) hS ?_
      try simp only [Act.put, xs0, xs1, xs2]
      refine wpAnyH_ready (rs := [9]) (by kernel_rfl) (by simp) ?_
      refine AllReadyH.cons (o := _) rfl (fun K' hK => ?_) AllReadyH.nil
      go_simp
      obtain ⟨wd, hwd⟩ : ∃ wd, (wc.alloc (.cells #[.int .i64 0, .int .i64 0, .int .i64 0, .int .i64 0] 58 (0, 0))).drew = wd := ⟨_, rfl⟩
      have hbd : Below wa.heap.size wa wd := by rw [← hwd]; exact (HBC.out.alloc HBC.out.size _).drew
      have hb7 : Blk wd wc.heap.size #[.int .i64 0, .int .i64 0, .int .i64 0, .int .i64 0] 58 := by rw [← hwd]; exact (Blk.new wc _ _).drew
      have hd5 : Blk wd wa.heap.size #[.int .i64 0, .int .i64 0, .int .i64 0, .int .i64 0] 132 := by rw [← hwd]; exact (HC5.out.alloc _).drew
      rw [hwd]
      refine hK.out _ _ hbd (fun hS => ?_)
      clear hK K'
      try simp only [Act.put, xs0, xs1, xs2]
      refine wpAnyH_ready (rs := [10]) (by kernel_rfl) (by simp) ?_
      refine AllReadyH.cons (o := _) rfl (fun K' hK => ?_) AllReadyH.nil
      have p0 := hb7.cell 0
      have p1 := hb7.cell 1
      have p2 := hb7.cell 2
      have p3 := hb7.cell 3
      have f0 := hb7.free 0
      have f1 := hb7.free 1
      have f2 := hb7.free 2
      have f3 := hb7.free 3
      simp at p0 p1 p2 p3
      go_simp
      obtain ⟨we, hwe⟩ : ∃ we, (((wd.setCell ⟨wc.heap.size, 0, none⟩ (.int .i64 s0)).setCell ⟨wc.heap.size, 1, none⟩ (.int .i64 s1)).setCell ⟨wc.heap.size, 2, none⟩ (.int .i64 s2)).setCell ⟨wc.heap.size, 3, none⟩ (.int .i64 s3) = we := ⟨_, rfl⟩
      have hbe : Below wa.heap.size wa we := by rw [← hwe]; exact below_four _ _ _ _ hbd HBC.out.size
      have he7 : Blk we wc.heap.size #[.int .i64 s0, .int .i64 s1, .int .i64 s2, .int .i64 s3] 58 := by rw [← hwe]; exact blk_four _ _ _ _ hb7
      have hwcd : Below wc.heap.size wd we := by rw [← hwe]; exact below_four _ _ _ _ (Below.refl _ _) (Nat.le_refl _)
      have he5 : Blk we wa.heap.size #[.int .i64 0, .int .i64 0, .int .i64 0, .int .i64 0] 132 := hd5.below hwcd HC5.out.lt
      rw [hwe]
      refine hK.out _ _ hbe (fun hS => ?_)
      clear hK K' hwe hwd hb7 hd5 hwcd hbd p0 p1 p2 p3 f0 f1 f2 f3
      try simp only [Act.put, xs0, xs1, xs2]
      refine wpAnyH_done (by kernel_rfl) ?_ _
      have p1 := he7.cell 1
      have p2 := he7.cell 2
      have p3 := he7.cell 3
      have xe := kbc hbe x2
      simp at p1 p2 p3
      have HBE := Lib.hid hbe
      have HE7 := Lib.hid he7
      have HE5 := Lib.hid he5
      clear hS hbe he7 he5
      go_wp2_with fail
      clear p1 p2 p3 xe
      have hsbs : wa.heap.size < wc.heap.size := HC5.out.lt
      generalize hbs : wc.heap.size = bs at *
      have HSBS := Lib.hid hsbs
      clear hsbs hbs
      refine wp_region_held_drew (S := fun w' => Below wa.heap.size wa w' ∧ Blk w' bs #[.int .i64 s0, .int .i64 s1, .int .i64 s2, .int .i64 s3] 58 ∧ ∃ z0 z1 z2 z3 : Int, Blk w' wa.heap.size #[.int .i64 z0, .int .i64 z1, .int .i64 z2, .int .i64 z3] 132) (by kernel_rfl) ⟨HBE.out.drew, HE7.out.drew, 0, 0, 0, 0, HE5.out.drew⟩ (fun hS => ?_)
      refine tk1 0 (.pointer (some ⟨b, 0, none⟩)) rfl (fun w' hSw => by go_simp) hS ?_
      try simp only [Act.put, xs0, xs1, xs2]
      refine tk1 1 (.pointer (some ⟨b, 0, none⟩)) rfl (fun w' hSw => by have z_y5 := kbc hSw.1 y5; go_simp) hS ?_
      try simp only [Act.put, xs0, xs1, xs2]
      refine tk1 2 (.pointer (some ⟨b, 4, none⟩)) rfl (fun w' hSw => by go_simp) hS ?_
      try simp only [Act.put, xs0, xs1, xs2]
      refine tk1 3 (.int .i64 sl) rfl (fun w' hSw => by have z_y4 := kbc hSw.1 y4; go_simp) hS ?_
      try simp only [Act.put, xs0, xs1, xs2]
      refine tk1 4 (.pointer (some ⟨b, 0, none⟩)) rfl (fun w' hSw => by go_simp) hS ?_
      try simp only [Act.put, xs0, xs1, xs2]
      refine tk1 5 (.pointer (some ⟨b, 0, none⟩)) rfl (fun w' hSw => by have z_y5 := kbc hSw.1 y5; go_simp) hS ?_
      try simp only [Act.put, xs0, xs1, xs2]
      refine tk1 6 (.pointer (some ⟨b, 0, none⟩)) rfl (fun w' hSw => by go_simp) hS ?_
      try simp only [Act.put, xs0, xs1, xs2]
      refine tk1 7 (.pointer (some ⟨b, 0, none⟩)) rfl (fun w' hSw => by go_simp) hS ?_
      try simp only [Act.put, xs0, xs1, xs2]
      refine tk1 8 (.int .i64 P) rfl (fun w' hSw => by have z_y0 := kbc hSw.1 y0; go_simp) hS ?_
      try simp only [Act.put, xs0, xs1, xs2]
      refine tk1 9 (.pointer (some ⟨w.heap.size, 1, none⟩)) rfl (fun w' hSw => by go_simp) hS ?_
      try simp only [Act.put, xs0, xs1, xs2]
      refine tk1 10 (.int .i64 l) rfl (fun w' hSw => by have z_x1 := kbc hSw.1 x1; go_simp) hS ?_
      try simp only [Act.put, xs0, xs1, xs2]
      refine tk1 11 (.int .i64 s3) rfl (fun w' hSw => by go_simp) hS ?_
      try simp only [Act.put, xs0, xs1, xs2]
      refine tk1 12 (.pointer (some ⟨bs, 1, none⟩)) rfl (fun w' hSw => by go_simp) hS ?_
      try simp only [Act.put, xs0, xs1, xs2]
      refine tk1 13 (.int .i64 s1) rfl (fun w' hSw => by have g := hSw.2.1.cell 1; simp at g; go_simp) hS ?_
      try simp only [Act.put, xs0, xs1, xs2]
      refine tk1 14 (.pointer (some ⟨bs, 2, none⟩)) rfl (fun w' hSw => by go_simp) hS ?_
      try simp only [Act.put, xs0, xs1, xs2]
      refine tk1 15 (.int .i64 s2) rfl (fun w' hSw => by have g := hSw.2.1.cell 2; simp at g; go_simp) hS ?_
      try simp only [Act.put, xs0, xs1, xs2]
      refine wpAnyH_ready (rs := [16]) (by kernel_rfl) (by simp) ?_
      refine AllReadyH.cons (o := _) rfl (fun K' hK => ?_) AllReadyH.nil
      go_simp
      refine (HP.out _).mono ?_
      rintro e2 w2 ⟨rfl, hb2⟩
      go_wp2_with fail
      have h21 : Below wa.heap.size wa w2 := HBE.out.drew.trans (hb2.mono HBE.out.drew.size)
      have h22 := HE7.out.drew.below hb2 HE7.out.drew.lt
      have h23 := HE5.out.drew.below hb2 HE5.out.drew.lt
      refine hK.out _ _ ⟨h21, h22, _, _, _, _, h23⟩ (fun hS => ?_)
      clear hK K' hb2
      try simp only [Act.put, xs0, xs1, xs2]
      refine tk1 17 (.tuple #[.agg #[.int .i64 r1, .int .i64 r2, .int .i64 r3, .int .i64 r4], .int .i64 r5]) rfl (fun w' hSw => by go_simp) hS ?_
      try simp only [Act.put, xs0, xs1, xs2]
      refine tk1 18 (.agg #[.int .i64 r1, .int .i64 r2, .int .i64 r3, .int .i64 r4]) rfl (fun w' hSw => by go_simp) hS ?_
      try simp only [Act.put, xs0, xs1, xs2]
      refine tk1 19 (.int .i64 r5) rfl (fun w' hSw => by go_simp) hS ?_
      try simp only [Act.put, xs0, xs1, xs2]
      refine wpAnyH_ready (rs := [20]) (by kernel_rfl) (by simp) ?_
      refine AllReadyH.cons (o := _) rfl (fun K' hK => ?_) AllReadyH.nil
      have p0 := h23.cell 0
      have p1 := h23.cell 1
      have p2 := h23.cell 2
      have p3 := h23.cell 3
      have f0 := h23.free 0
      have f1 := h23.free 1
      have f2 := h23.free 2
      have f3 := h23.free 3
      simp at p0 p1 p2 p3
      go_simp
      obtain ⟨w3, hw3⟩ : ∃ w3, (((w2.setCell ⟨wa.heap.size, 0, none⟩ (.int .i64 r1)).setCell ⟨wa.heap.size, 1, none⟩ (.int .i64 r2)).setCell ⟨wa.heap.size, 2, none⟩ (.int .i64 r3)).setCell ⟨wa.heap.size, 3, none⟩ (.int .i64 r4) = w3 := ⟨_, rfl⟩
      have h31 : Below wa.heap.size wa w3 := by rw [← hw3]; exact below_four _ _ _ _ h21 (Nat.le_refl _)
      have h33 : Blk w3 wa.heap.size #[.int .i64 r1, .int .i64 r2, .int .i64 r3, .int .i64 r4] 132 := by rw [← hw3]; exact blk_four _ _ _ _ h23
      have h32 : Blk w3 bs #[.int .i64 s0, .int .i64 s1, .int .i64 s2, .int .i64 s3] 58 := by
        rw [← hw3]
        unfold Blk at h22 ⊢
        rw [Below.heap_setCell _ _ _ _ (by have := HSBS.out; simp; omega), Below.heap_setCell _ _ _ _ (by have := HSBS.out; simp; omega), Below.heap_setCell _ _ _ _ (by have := HSBS.out; simp; omega), Below.heap_setCell _ _ _ _ (by have := HSBS.out; simp; omega)]
        exact h22
      rw [hw3]
      refine hK.out _ _ ⟨h31, h32, _, _, _, _, h33⟩ (fun hS => ?_)
      clear hK K' hw3 h21 h22 h23 p0 p1 p2 p3 f0 f1 f2 f3
      try simp only [Act.put, xs0, xs1, xs2]
      refine wpAnyH_done (by kernel_rfl) ?_ _
      have H31 := Lib.hid h31
      have H33 := Lib.hid h33
      clear hS h31 h32 h33
      go_wp2_with fail
      have m3 := HT1.out.map.below H31.out
      have a1 := kbc H31.out y5
      have a2 := kbc H31.out x0
      have a3 := kbc H31.out x1
      have a4 := kbc H31.out x2
      have a5 := H33.out.cell 0
      have a6 := H33.out.cell 1
      have a7 := H33.out.cell 2
      have a8 := H33.out.cell 3
      simp at a5 a6 a7 a8
      obtain ⟨wz, hrun, hmz, hbut, hsz⟩ := upd_new (.agg #[.int .i64 r1, .int .i64 r2, .int .i64 r3, .int .i64 r4]) key_site Try.underlying124 m3.drew HA.out
      have HS8 : Hid (wz.cell? ⟨b, 5, none⟩ = some (.map (some m)) ∧ wz.cell? ⟨w.heap.size, 0, none⟩ = some (.int .i64 (K : Int)) ∧ wz.cell? ⟨w.heap.size, 1, none⟩ = some (.int .i64 l) ∧ wz.cell? ⟨w.heap.size, 2, none⟩ = some (.bool false) ∧ wz.cell? ⟨wa.heap.size, 0, none⟩ = some (.int .i64 r1) ∧ wz.cell? ⟨wa.heap.size, 1, none⟩ = some (.int .i64 r2) ∧ wz.cell? ⟨wa.heap.size, 2, none⟩ = some (.int .i64 r3) ∧ wz.cell? ⟨wa.heap.size, 3, none⟩ = some (.int .i64 r4)) := Lib.hid ⟨hbut.cell m3.drew a1, hbut.cell m3.drew a2, hbut.cell m3.drew a3, hbut.cell m3.drew a4, hbut.cell m3.drew a5, hbut.cell m3.drew a6, hbut.cell m3.drew a7, hbut.cell m3.drew a8⟩
      have HMZ := Lib.hid hmz
      have HBUT := Lib.hid hbut
      have hrun' : (Instr.mapUpdate 124 (.map (some m)) (.agg #[.int .i64 (K : Int), .int .i64 l, .bool false]) (.agg #[.int .i64 r1, .int .i64 r2, .int .i64 r3, .int .i64 r4])).run Try.prog w3.drew = .ok () wz := hrun
      clear hmz hbut hsz hrun m3
      refine wp_region_held_drew (S := fun w' => w'.cell? ⟨b, 5, none⟩ = some (.map (some m)) ∧ w'.cell? ⟨w.heap.size, 0, none⟩ = some (.int .i64 (K : Int)) ∧ w'.cell? ⟨w.heap.size, 1, none⟩ = some (.int .i64 l) ∧ w'.cell? ⟨w.heap.size, 2, none⟩ = some (.bool false) ∧ w'.cell? ⟨wa.heap.size, 0, none⟩ = some (.int .i64 r1) ∧ w'.cell? ⟨wa.heap.size, 1, none⟩ = some (.int .i64 r2) ∧ w'.cell? ⟨wa.heap.size, 2, none⟩ = some (.int .i64 r3) ∧ w'.cell? ⟨wa.heap.size, 3, none⟩ = some (.int .i64 r4)) (by kernel_rfl) ⟨a1, a2, a3, a4, a5, a6, a7, a8⟩ (fun hS => ?_)
      clear a1 a2 a3 a4 a5 a6 a7 a8
      refine tk1 0 (.pointer (some ⟨b, 0, none⟩)) rfl (fun w' hSw => by go_simp) hS ?_
      try simp only [Act.put, xs0, xs1, xs2]
      refine tk1 1 (.pointer (some ⟨b, 0, none⟩)) rfl (fun w' hSw => by obtain ⟨b1, b2, b3, b4, b5, b6, b7, b8⟩ := hSw; go_simp) hS ?_
      try simp only [Act.put, xs0, xs1, xs2]
      refine tk1 2 (.pointer (some ⟨b, 5, none⟩)) rfl (fun w' hSw => by go_simp) hS ?_
      try simp only [Act.put, xs0, xs1, xs2]
      refine tk1 3 (.map (some m)) rfl (fun w' hSw => by obtain ⟨b1, b2, b3, b4, b5, b6, b7, b8⟩ := hSw; go_simp) hS ?_
      try simp only [Act.put, xs0, xs1, xs2]
      refine tk1 4 (.agg #[.int .i64 (K : Int), .int .i64 l, .bool false]) rfl (fun w' hSw => by obtain ⟨b1, b2, b3, b4, b5, b6, b7, b8⟩ := hSw; go_simp) hS ?_
      try simp only [Act.put, xs0, xs1, xs2]
      refine tk1 5 (.agg #[.int .i64 r1, .int .i64 r2, .int .i64 r3, .int .i64 r4]) rfl (fun w' hSw => by obtain ⟨b1, b2, b3, b4, b5, b6, b7, b8⟩ := hSw; go_simp) hS ?_
      try simp only [Act.put, xs0, xs1, xs2]
      refine wpAnyH_ready (rs := [6]) (by kernel_rfl) (by simp) ?_
      refine AllReadyH.cons (o := _) rfl (fun K' hK => ?_) AllReadyH.nil
      go_simp
      refine hK.out _ _ HS8.out (fun hS => ?_)
      clear hK K' hrun'
      try simp only [Act.put, xs0, xs1, xs2]
      refine wpAnyH_done (by kernel_rfl) ?_ _
      have HML := Lib.hid HT.out.map.lt
      have HBZ := Lib.hid ((But.of_below HW.out (Nat.le_refl _)).trans ((But.of_below H31.out.drew (Nat.le_refl _)).trans HBUT.out))
      have HC5z := Lib.hid (HBUT.out.blk H33.out.drew (by have := HML.out; have := HSZ.out; omega))
      have HB4z := Lib.hid (HBUT.out.blk (HB4.out.below H31.out.drew HB4.out.lt) (by have := HML.out; omega))
      have HTB := Lib.hid (HBUT.out.blk (HT1.out.below H31.out.drew).blk HT.out.ne)
      have HMS := Lib.hid HBUT.out.size
      clear hS
      have u0 := HC5z.out.cell 0
      have u1 := HC5z.out.cell 1
      have u2 := HC5z.out.cell 2
      have u3 := HC5z.out.cell 3
      have t0 := HB4z.out.cell 0
      have t1 := HB4z.out.cell 1
      have t2 := HB4z.out.cell 2
      have t3 := HB4z.out.cell 3
      have v0 := HB4z.out.free 0
      have v1 := HB4z.out.free 1
      have v2 := HB4z.out.free 2
      have v3 := HB4z.out.free 3
      simp at u0 u1 u2 u3 t0 t1 t2 t3
      go_wp2
      have hbF := blk_four (.int .i64 r1) (.int .i64 r2) (.int .i64 r3) (.int .i64 r4) HB4z.out
      refine bodyPost_ret (results_cell_row rfl _ _ (w.heap.size + 1) 132 _ (0, 0) _ rfl hbF Try.underlying132 rfl (by kernel_rfl)) rfl ?_
      have hq : w.heap.size ≤ wz.heap.size := HBZ.out.size
      have hf := below_four (.int .i64 r1) (.int .i64 r2) (.int .i64 r3) (.int .i64 r4) (Below.refl w.heap.size wz) (show w.heap.size ≤ w.heap.size + 1 by omega)
      refine ⟨rfl, HBZ.out.then_below hf (Nat.le_refl _), L ++ [(((K : Int), l, false), .agg #[.int .i64 r1, .int .i64 r2, .int .i64 r3, .int .i64 r4])], ⟨?_, ?_, HT.out.ne, ?_⟩⟩
      · exact HTB.out.below hf HT.out.blk.lt
      · exact HMZ.out.keep (hf.block m HML.out)
      · intro k v hv
        have HA' := HA.out
        by_cases hk : asc k L = none
        · rw [asc_append _ _ _ _ hk] at hv
          split at hv
          · rename_i hke
            cases hv
            rw [hke, HCH.out]
          · cases hv
        · obtain ⟨u, hu⟩ := Option.ne_none_iff_exists'.1 hk
          rw [asc_append_some _ _ _ _ _ hu] at hv
          cases hv
          exact HT.out.ok _ _ hu
    · obtain ⟨r1, r2, r3, r4, r5, hP⟩ := power_some sl P l s1 s1 s2
      have hch : chV P sl ss ((K : Int), l, true) = .agg #[.int .i64 r1, .int .i64 r2, .int .i64 r3, .int .i64 r4] := by
        simp only [chV, chK, hsite, hP, Option.getD_some, if_true, if_false, Bool.false_eq_true]
      rw [hch]
      have HCH := Lib.hid hch
      have HP := Lib.hid (fun wx => count_Power.calls sl P l s1 s1 s2 r1 r2 r3 r4 r5 wx hP)
      have HSI := Lib.hid hsite
      clear hch hP hsite
      go_enter Try.func66, Try.ntmps66
      go_wp2_with fail
      clear hwa
      refine wp_region_held_drew (S := fun w' => Below wa.heap.size wa w') (by kernel_rfl) (Below.refl wa.heap.size wa).drew (fun hS => ?_)
      refine tk1 0 (.pointer (some ⟨b, 0, none⟩)) rfl (fun w' hSw => by go_simp) hS ?_
      try simp only [Act.put, xs0, xs1, xs2]
      refine tk1 1 (.pointer (some ⟨b, 0, none⟩)) rfl (fun w' hSw => by have z_y5 := kbc hSw y5; go_simp) hS ?_
      try simp only [Act.put, xs0, xs1, xs2]
      refine tk1 2 (.pointer (some ⟨b, 5, none⟩)) rfl (fun w' hSw => by go_simp) hS ?_
      try simp only [Act.put, xs0, xs1, xs2]
      refine tk1 3 (.map (some m)) rfl (fun w' hSw => by have z_y5 := kbc hSw y5; go_simp) hS ?_
      try simp only [Act.put, xs0, xs1, xs2]
      refine tk1 4 (.agg #[.int .i64 (K : Int), .int .i64 l, .bool true]) rfl (fun w' hSw => by have z_x0 := kbc hSw x0; have z_x1 := kbc hSw x1; have z_x2 := kbc hSw x2; go_simp) hS ?_
      try simp only [Act.put, xs0, xs1, xs2]
      refine tk1 5 (.tuple #[.agg #[.int .i64 0, .int .i64 0, .int .i64 0, .int .i64 0], .bool false]) rfl (fun w' hSw => by have zl := HLK.out w' hSw; go_simp) hS ?_
      try simp only [Act.put, xs0, xs1, xs2]
      refine tk1 6 (.tuple #[.agg #[.int .i64 0, .int .i64 0, .int .i64 0, .int .i64 0], .bool false]) rfl (fun w' hSw => by go_simp) hS ?_
      try simp only [Act.put, xs0, xs1, xs2]
      refine tk1 7 (.agg #[.int .i64 0, .int .i64 0, .int .i64 0, .int .i64 0]) rfl (fun w' hSw => by go_simp) hS ?_
      try simp only [Act.put, xs0, xs1, xs2]
      refine tk1 8 (.bool false) rfl (fun w' hSw => by go_simp) hS ?_
      try simp only [Act.put, xs0, xs1, xs2]
      refine wpAnyH_ready (rs := [9]) (by kernel_rfl) (by simp) ?_
      refine AllReadyH.cons (o := _) rfl (fun K' hK => ?_) AllReadyH.nil
      go_simp
      obtain ⟨wb, hwb⟩ : ∃ wb, (wa.alloc (.cells #[.int .i64 0, .int .i64 0, .int .i64 0, .int .i64 0] 132 (0, 0))).drew = wb := ⟨_, rfl⟩
      have hbb : Below wa.heap.size wa wb := by rw [← hwb]; exact ((Below.refl wa.heap.size wa).alloc (Nat.le_refl _) _).drew
      have hb5 : Blk wb wa.heap.size #[.int .i64 0, .int .i64 0, .int .i64 0, .int .i64 0] 132 := by rw [← hwb]; exact (Blk.new wa _ _).drew
      rw [hwb]
      refine hK.out _ _ hbb (fun hS => ?_)
      clear hK K'
      try simp only [Act.put, xs0, xs1, xs2]
      refine wpAnyH_ready (rs := [10]) (by kernel_rfl) (by simp) ?_
      refine AllReadyH.cons (o := _) rfl (fun K' hK => ?_) AllReadyH.nil
      have q0 := hb5.cell 0
      have q1 := hb5.cell 1
      have q2 := hb5.cell 2
      have q3 := hb5.cell 3
      have f0 := hb5.free 0
      have f1 := hb5.free 1
      have f2 := hb5.free 2
      have f3 := hb5.free 3
      simp at q0 q1 q2 q3
      go_simp
      obtain ⟨wc, hwc⟩ : ∃ wc, (((wb.setCell ⟨wa.heap.size, 0, none⟩ (.int .i64 0)).setCell ⟨wa.heap.size, 1, none⟩ (.int .i64 0)).setCell ⟨wa.heap.size, 2, none⟩ (.int .i64 0)).setCell ⟨wa.heap.size, 3, none⟩ (.int .i64 0) = wc := ⟨_, rfl⟩
      have hbc : Below wa.heap.size wa wc := by rw [← hwc]; exact below_four _ _ _ _ hbb (Nat.le_refl _)
      have hc5 : Blk wc wa.heap.size #[.int .i64 0, .int .i64 0, .int .i64 0, .int .i64 0] 132 := by rw [← hwc]; exact blk_four _ _ _ _ hb5
      rw [hwc]
      refine hK.out _ _ hbc (fun hS => ?_)
      clear hK K' hwc hwb hb5 q0 q1 q2 q3 f0 f1 f2 f3
      try simp only [Act.put, xs0, xs1, xs2]
      refine tk1 11 (.bool false) rfl (fun w' hSw => by go_simp) hS ?_
      try simp only [Act.put, xs0, xs1, xs2]
      refine wpAnyH_done (by kernel_rfl) ?_ _
      have HBC := Lib.hid hbc
      have HC5 := Lib.hid hc5
      clear hS hbc hc5 hbb
      go_wp2_with fail
      refine wp_region_held_drew (S := fun w' => Below wa.heap.size wa w') (by kernel_rfl) HBC.out.drew (fun hS => ?_)
      refine tk1 0 (.pointer (some ⟨b, 0, none⟩)) rfl (fun w' hSw => by go_simp) hS ?_
      try simp only [Act.put, xs0, xs1, xs2]
      refine tk1 1 (.pointer (some ⟨b, 0, none⟩)) rfl (fun w' hSw => by have z_y5 := kbc hSw y5; go_simp) hS ?_
      try simp only [Act.put, xs0, xs1, xs2]
      refine tk1 2 (.pointer (some ⟨b, 0, none⟩)) rfl (fun w' hSw => by go_simp) hS ?_
      try simp only [Act.put, xs0, xs1, xs2]
      refine tk1 3 (.pointer (some ⟨b, 3, none⟩)) rfl (fun w' hSw => by go_simp) hS ?_
      try simp only [Act.put, xs0, xs1, xs2]
      refine tk1 4 (.slice (some ad) ss.length c) rfl (fun w' hSw => by have z_y3 := kbc hSw y3; go_simp) hS ?_
      try simp only [Act.put, xs0, xs1, xs2]
      refine tk1 5 (.pointer (some ⟨w.heap.size, 0, none⟩)) rfl (fun w' hSw => by go_simp) hS ?_
      try simp only [Act.put, xs0, xs1, xs2]
      refine tk1 6 (.int .i64 (K : Int)) rfl (fun w' hSw => by have z_x0 := kbc hSw x0; go_simp) hS ?_
      try simp only [Act.put, xs0, xs1, xs2]
      refine tk1 7 (.pointer (some (ad.add (K * 4)))) rfl (fun w' hSw => by go_simp) hS ?_
      try simp only [Act.put, xs0, xs1, xs2]
      refine tk1 8 (.agg #[.int .i64 s0, .int .i64 s1, .int .i64 s2, .int .i64 s3]) rfl (fun w' hSw => by have z_q0 := kbc hSw q0; have z_q1 := kbc hSw q1; have z_q2 := kbc hSw q2; have z_q3 := kbc hSw q3; go_simp) hS ?_
      try simp only [Act.put, xs0, xs1, xs2]
      refine wpAnyH_ready (rs := [9]) (by kernel_rfl) (by simp) ?_
      refine AllReadyH.cons (o := _) rfl (fun K' hK => ?_) AllReadyH.nil
      go_simp
      obtain ⟨wd, hwd⟩ : ∃ wd, (wc.alloc (.cells #[.int .i64 0, .int .i64 0, .int .i64 0, .int .i64 0] 58 (0, 0))).drew = wd := ⟨_, rfl⟩
      have hbd : Below wa.heap.size wa wd := by rw [← hwd]; exact (HBC.out.alloc HBC.out.size _).drew
      have hb7 : Blk wd wc.heap.size #[.int .i64 0, .int .i64 0, .int .i64 0, .int .i64 0] 58 := by rw [← hwd]; exact (Blk.new wc _ _).drew
      have hd5 : Blk wd wa.heap.size #[.int .i64 0, .int .i64 0, .int .i64 0, .int .i64 0] 132 := by rw [← hwd]; exact (HC5.out.alloc _).drew
      rw [hwd]
      refine hK.out _ _ hbd (fun hS => ?_)
      clear hK K'
      try simp only [Act.put, xs0, xs1, xs2]
      refine wpAnyH_ready (rs := [10]) (by kernel_rfl) (by simp) ?_
      refine AllReadyH.cons (o := _) rfl (fun K' hK => ?_) AllReadyH.nil
      have p0 := hb7.cell 0
      have p1 := hb7.cell 1
      have p2 := hb7.cell 2
      have p3 := hb7.cell 3
      have f0 := hb7.free 0
      have f1 := hb7.free 1
      have f2 := hb7.free 2
      have f3 := hb7.free 3
      simp at p0 p1 p2 p3
      go_simp
      obtain ⟨we, hwe⟩ : ∃ we, (((wd.setCell ⟨wc.heap.size, 0, none⟩ (.int .i64 s0)).setCell ⟨wc.heap.size, 1, none⟩ (.int .i64 s1)).setCell ⟨wc.heap.size, 2, none⟩ (.int .i64 s2)).setCell ⟨wc.heap.size, 3, none⟩ (.int .i64 s3) = we := ⟨_, rfl⟩
      have hbe : Below wa.heap.size wa we := by rw [← hwe]; exact below_four _ _ _ _ hbd HBC.out.size
      have he7 : Blk we wc.heap.size #[.int .i64 s0, .int .i64 s1, .int .i64 s2, .int .i64 s3] 58 := by rw [← hwe]; exact blk_four _ _ _ _ hb7
      have hwcd : Below wc.heap.size wd we := by rw [← hwe]; exact below_four _ _ _ _ (Below.refl _ _) (Nat.le_refl _)
      have he5 : Blk we wa.heap.size #[.int .i64 0, .int .i64 0, .int .i64 0, .int .i64 0] 132 := hd5.below hwcd HC5.out.lt
      rw [hwe]
      refine hK.out _ _ hbe (fun hS => ?_)
      clear hK K' hwe hwd hb7 hd5 hwcd hbd p0 p1 p2 p3 f0 f1 f2 f3
      try simp only [Act.put, xs0, xs1, xs2]
      refine wpAnyH_done (by kernel_rfl) ?_ _
      have p1 := he7.cell 1
      have p2 := he7.cell 2
      have p3 := he7.cell 3
      have xe := kbc hbe x2
      simp at p1 p2 p3
      have HBE := Lib.hid hbe
      have HE7 := Lib.hid he7
      have HE5 := Lib.hid he5
      clear hS hbe he7 he5
      go_wp2_with fail
      clear p1 p2 p3 xe
      have hsbs : wa.heap.size < wc.heap.size := HC5.out.lt
      generalize hbs : wc.heap.size = bs at *
      have HSBS := Lib.hid hsbs
      clear hsbs hbs
      refine wp_region_held_drew (S := fun w' => Below wa.heap.size wa w' ∧ Blk w' bs #[.int .i64 s0, .int .i64 s1, .int .i64 s2, .int .i64 s3] 58 ∧ ∃ z0 z1 z2 z3 : Int, Blk w' wa.heap.size #[.int .i64 z0, .int .i64 z1, .int .i64 z2, .int .i64 z3] 132) (by kernel_rfl) ⟨HBE.out.drew, HE7.out.drew, 0, 0, 0, 0, HE5.out.drew⟩ (fun hS => ?_)
      refine tk1 0 (.pointer (some ⟨b, 0, none⟩)) rfl (fun w' hSw => by go_simp) hS ?_
      try simp only [Act.put, xs0, xs1, xs2]
      refine tk1 1 (.pointer (some ⟨b, 0, none⟩)) rfl (fun w' hSw => by have z_y5 := kbc hSw.1 y5; go_simp) hS ?_
      try simp only [Act.put, xs0, xs1, xs2]
      refine tk1 2 (.pointer (some ⟨b, 4, none⟩)) rfl (fun w' hSw => by go_simp) hS ?_
      try simp only [Act.put, xs0, xs1, xs2]
      refine tk1 3 (.int .i64 sl) rfl (fun w' hSw => by have z_y4 := kbc hSw.1 y4; go_simp) hS ?_
      try simp only [Act.put, xs0, xs1, xs2]
      refine tk1 4 (.pointer (some ⟨b, 0, none⟩)) rfl (fun w' hSw => by go_simp) hS ?_
      try simp only [Act.put, xs0, xs1, xs2]
      refine tk1 5 (.pointer (some ⟨b, 0, none⟩)) rfl (fun w' hSw => by have z_y5 := kbc hSw.1 y5; go_simp) hS ?_
      try simp only [Act.put, xs0, xs1, xs2]
      refine tk1 6 (.pointer (some ⟨b, 0, none⟩)) rfl (fun w' hSw => by go_simp) hS ?_
      try simp only [Act.put, xs0, xs1, xs2]
      refine tk1 7 (.pointer (some ⟨b, 0, none⟩)) rfl (fun w' hSw => by go_simp) hS ?_
      try simp only [Act.put, xs0, xs1, xs2]
      refine tk1 8 (.int .i64 P) rfl (fun w' hSw => by have z_y0 := kbc hSw.1 y0; go_simp) hS ?_
      try simp only [Act.put, xs0, xs1, xs2]
      refine tk1 9 (.pointer (some ⟨w.heap.size, 1, none⟩)) rfl (fun w' hSw => by go_simp) hS ?_
      try simp only [Act.put, xs0, xs1, xs2]
      refine tk1 10 (.int .i64 l) rfl (fun w' hSw => by have z_x1 := kbc hSw.1 x1; go_simp) hS ?_
      try simp only [Act.put, xs0, xs1, xs2]
      refine tk1 11 (.int .i64 s1) rfl (fun w' hSw => by go_simp) hS ?_
      try simp only [Act.put, xs0, xs1, xs2]
      refine tk1 12 (.pointer (some ⟨bs, 1, none⟩)) rfl (fun w' hSw => by go_simp) hS ?_
      try simp only [Act.put, xs0, xs1, xs2]
      refine tk1 13 (.int .i64 s1) rfl (fun w' hSw => by have g := hSw.2.1.cell 1; simp at g; go_simp) hS ?_
      try simp only [Act.put, xs0, xs1, xs2]
      refine tk1 14 (.pointer (some ⟨bs, 2, none⟩)) rfl (fun w' hSw => by go_simp) hS ?_
      try simp only [Act.put, xs0, xs1, xs2]
      refine tk1 15 (.int .i64 s2) rfl (fun w' hSw => by have g := hSw.2.1.cell 2; simp at g; go_simp) hS ?_
      try simp only [Act.put, xs0, xs1, xs2]
      refine wpAnyH_ready (rs := [16]) (by kernel_rfl) (by simp) ?_
      refine AllReadyH.cons (o := _) rfl (fun K' hK => ?_) AllReadyH.nil
      go_simp
      refine (HP.out _).mono ?_
      rintro e2 w2 ⟨rfl, hb2⟩
      go_wp2_with fail
      have h21 : Below wa.heap.size wa w2 := HBE.out.drew.trans (hb2.mono HBE.out.drew.size)
      have h22 := HE7.out.drew.below hb2 HE7.out.drew.lt
      have h23 := HE5.out.drew.below hb2 HE5.out.drew.lt
      refine hK.out _ _ ⟨h21, h22, _, _, _, _, h23⟩ (fun hS => ?_)
      clear hK K' hb2
      try simp only [Act.put, xs0, xs1, xs2]
      refine tk1 17 (.tuple #[.agg #[.int .i64 r1, .int .i64 r2, .int .i64 r3, .int .i64 r4], .int .i64 r5]) rfl (fun w' hSw => by go_simp) hS ?_
      try simp only [Act.put, xs0, xs1, xs2]
      refine tk1 18 (.agg #[.int .i64 r1, .int .i64 r2, .int .i64 r3, .int .i64 r4]) rfl (fun w' hSw => by go_simp) hS ?_
      try simp only [Act.put, xs0, xs1, xs2]
      refine tk1 19 (.int .i64 r5) rfl (fun w' hSw => by go_simp) hS ?_
      try simp only [Act.put, xs0, xs1, xs2]
      refine wpAnyH_ready (rs := [20]) (by kernel_rfl) (by simp) ?_
      refine AllReadyH.cons (o := _) rfl (fun K' hK => ?_) AllReadyH.nil
      have p0 := h23.cell 0
      have p1 := h23.cell 1
      have p2 := h23.cell 2
      have p3 := h23.cell 3
      have f0 := h23.free 0
      have f1 := h23.free 1
      have f2 := h23.free 2
      have f3 := h23.free 3
      simp at p0 p1 p2 p3
      go_simp
      obtain ⟨w3, hw3⟩ : ∃ w3, (((w2.setCell ⟨wa.heap.size, 0, none⟩ (.int .i64 r1)).setCell ⟨wa.heap.size, 1, none⟩ (.int .i64 r2)).setCell ⟨wa.heap.size, 2, none⟩ (.int .i64 r3)).setCell ⟨wa.heap.size, 3, none⟩ (.int .i64 r4) = w3 := ⟨_, rfl⟩
      have h31 : Below wa.heap.size wa w3 := by rw [← hw3]; exact below_four _ _ _ _ h21 (Nat.le_refl _)
      have h33 : Blk w3 wa.heap.size #[.int .i64 r1, .int .i64 r2, .int .i64 r3, .int .i64 r4] 132 := by rw [← hw3]; exact blk_four _ _ _ _ h23
      have h32 : Blk w3 bs #[.int .i64 s0, .int .i64 s1, .int .i64 s2, .int .i64 s3] 58 := by
        rw [← hw3]
        unfold Blk at h22 ⊢
        rw [Below.heap_setCell _ _ _ _ (by have := HSBS.out; simp; omega), Below.heap_setCell _ _ _ _ (by have := HSBS.out; simp; omega), Below.heap_setCell _ _ _ _ (by have := HSBS.out; simp; omega), Below.heap_setCell _ _ _ _ (by have := HSBS.out; simp; omega)]
        exact h22
      rw [hw3]
      refine hK.out _ _ ⟨h31, h32, _, _, _, _, h33⟩ (fun hS => ?_)
      clear hK K' hw3 h21 h22 h23 p0 p1 p2 p3 f0 f1 f2 f3
      try simp only [Act.put, xs0, xs1, xs2]
      refine wpAnyH_done (by kernel_rfl) ?_ _
      have H31 := Lib.hid h31
      have H33 := Lib.hid h33
      clear hS h31 h32 h33
      go_wp2_with fail
      have m3 := HT1.out.map.below H31.out
      have a1 := kbc H31.out y5
      have a2 := kbc H31.out x0
      have a3 := kbc H31.out x1
      have a4 := kbc H31.out x2
      have a5 := H33.out.cell 0
      have a6 := H33.out.cell 1
      have a7 := H33.out.cell 2
      have a8 := H33.out.cell 3
      simp at a5 a6 a7 a8
      obtain ⟨wz, hrun, hmz, hbut, hsz⟩ := upd_new (.agg #[.int .i64 r1, .int .i64 r2, .int .i64 r3, .int .i64 r4]) key_site Try.underlying124 m3.drew HA.out
      have HS8 : Hid (wz.cell? ⟨b, 5, none⟩ = some (.map (some m)) ∧ wz.cell? ⟨w.heap.size, 0, none⟩ = some (.int .i64 (K : Int)) ∧ wz.cell? ⟨w.heap.size, 1, none⟩ = some (.int .i64 l) ∧ wz.cell? ⟨w.heap.size, 2, none⟩ = some (.bool true) ∧ wz.cell? ⟨wa.heap.size, 0, none⟩ = some (.int .i64 r1) ∧ wz.cell? ⟨wa.heap.size, 1, none⟩ = some (.int .i64 r2) ∧ wz.cell? ⟨wa.heap.size, 2, none⟩ = some (.int .i64 r3) ∧ wz.cell? ⟨wa.heap.size, 3, none⟩ = some (.int .i64 r4)) := Lib.hid ⟨hbut.cell m3.drew a1, hbut.cell m3.drew a2, hbut.cell m3.drew a3, hbut.cell m3.drew a4, hbut.cell m3.drew a5, hbut.cell m3.drew a6, hbut.cell m3.drew a7, hbut.cell m3.drew a8⟩
      have HMZ := Lib.hid hmz
      have HBUT := Lib.hid hbut
      have hrun' : (Instr.mapUpdate 124 (.map (some m)) (.agg #[.int .i64 (K : Int), .int .i64 l, .bool true]) (.agg #[.int .i64 r1, .int .i64 r2, .int .i64 r3, .int .i64 r4])).run Try.prog w3.drew = .ok () wz := hrun
      clear hmz hbut hsz hrun m3
      refine wp_region_held_drew (S := fun w' => w'.cell? ⟨b, 5, none⟩ = some (.map (some m)) ∧ w'.cell? ⟨w.heap.size, 0, none⟩ = some (.int .i64 (K : Int)) ∧ w'.cell? ⟨w.heap.size, 1, none⟩ = some (.int .i64 l) ∧ w'.cell? ⟨w.heap.size, 2, none⟩ = some (.bool true) ∧ w'.cell? ⟨wa.heap.size, 0, none⟩ = some (.int .i64 r1) ∧ w'.cell? ⟨wa.heap.size, 1, none⟩ = some (.int .i64 r2) ∧ w'.cell? ⟨wa.heap.size, 2, none⟩ = some (.int .i64 r3) ∧ w'.cell? ⟨wa.heap.size, 3, none⟩ = some (.int .i64 r4)) (by kernel_rfl) ⟨a1, a2, a3, a4, a5, a6, a7, a8⟩ (fun hS => ?_)
      clear a1 a2 a3 a4 a5 a6 a7 a8
      refine tk1 0 (.pointer (some ⟨b, 0, none⟩)) rfl (fun w' hSw => by go_simp) hS ?_
      try simp only [Act.put, xs0, xs1, xs2]
      refine tk1 1 (.pointer (some ⟨b, 0, none⟩)) rfl (fun w' hSw => by obtain ⟨b1, b2, b3, b4, b5, b6, b7, b8⟩ := hSw; go_simp) hS ?_
      try simp only [Act.put, xs0, xs1, xs2]
      refine tk1 2 (.pointer (some ⟨b, 5, none⟩)) rfl (fun w' hSw => by go_simp) hS ?_
      try simp only [Act.put, xs0, xs1, xs2]
      refine tk1 3 (.map (some m)) rfl (fun w' hSw => by obtain ⟨b1, b2, b3, b4, b5, b6, b7, b8⟩ := hSw; go_simp) hS ?_
      try simp only [Act.put, xs0, xs1, xs2]
      refine tk1 4 (.agg #[.int .i64 (K : Int), .int .i64 l, .bool true]) rfl (fun w' hSw => by obtain ⟨b1, b2, b3, b4, b5, b6, b7, b8⟩ := hSw; go_simp) hS ?_
      try simp only [Act.put, xs0, xs1, xs2]
      refine tk1 5 (.agg #[.int .i64 r1, .int .i64 r2, .int .i64 r3, .int .i64 r4]) rfl (fun w' hSw => by obtain ⟨b1, b2, b3, b4, b5, b6, b7, b8⟩ := hSw; go_simp) hS ?_
      try simp only [Act.put, xs0, xs1, xs2]
      refine wpAnyH_ready (rs := [6]) (by kernel_rfl) (by simp) ?_
      refine AllReadyH.cons (o := _) rfl (fun K' hK => ?_) AllReadyH.nil
      go_simp
      refine hK.out _ _ HS8.out (fun hS => ?_)
      clear hK K' hrun'
      try simp only [Act.put, xs0, xs1, xs2]
      refine wpAnyH_done (by kernel_rfl) ?_ _
      have HML := Lib.hid HT.out.map.lt
      have HBZ := Lib.hid ((But.of_below HW.out (Nat.le_refl _)).trans ((But.of_below H31.out.drew (Nat.le_refl _)).trans HBUT.out))
      have HC5z := Lib.hid (HBUT.out.blk H33.out.drew (by have := HML.out; have := HSZ.out; omega))
      have HB4z := Lib.hid (HBUT.out.blk (HB4.out.below H31.out.drew HB4.out.lt) (by have := HML.out; omega))
      have HTB := Lib.hid (HBUT.out.blk (HT1.out.below H31.out.drew).blk HT.out.ne)
      have HMS := Lib.hid HBUT.out.size
      clear hS
      have u0 := HC5z.out.cell 0
      have u1 := HC5z.out.cell 1
      have u2 := HC5z.out.cell 2
      have u3 := HC5z.out.cell 3
      have t0 := HB4z.out.cell 0
      have t1 := HB4z.out.cell 1
      have t2 := HB4z.out.cell 2
      have t3 := HB4z.out.cell 3
      have v0 := HB4z.out.free 0
      have v1 := HB4z.out.free 1
      have v2 := HB4z.out.free 2
      have v3 := HB4z.out.free 3
      simp at u0 u1 u2 u3 t0 t1 t2 t3
      go_wp2
      have hbF := blk_four (.int .i64 r1) (.int .i64 r2) (.int .i64 r3) (.int .i64 r4) HB4z.out
      refine bodyPost_ret (results_cell_row rfl _ _ (w.heap.size + 1) 132 _ (0, 0) _ rfl hbF Try.underlying132 rfl (by kernel_rfl)) rfl ?_
      have hq : w.heap.size ≤ wz.heap.size := HBZ.out.size
      have hf := below_four (.int .i64 r1) (.int .i64 r2) (.int .i64 r3) (.int .i64 r4) (Below.refl w.heap.size wz) (show w.heap.size ≤ w.heap.size + 1 by omega)
      refine ⟨rfl, HBZ.out.then_below hf (Nat.le_refl _), L ++ [(((K : Int), l, true), .agg #[.int .i64 r1, .int .i64 r2, .int .i64 r3, .int .i64 r4])], ⟨?_, ?_, HT.out.ne, ?_⟩⟩
      · exact HTB.out.below hf HT.out.blk.lt
      · exact HMZ.out.keep (hf.block m HML.out)
      · intro k v hv
        have HA' := HA.out
        by_cases hk : asc k L = none
        · rw [asc_append _ _ _ _ hk] at hv
          split at hv
          · rename_i hke
            cases hv
            rw [hke, HCH.out]
          · cases hv
        · obtain ⟨u, hu⟩ := Option.ne_none_iff_exists'.1 hk
          rw [asc_append_some _ _ _ _ _ hu] at hv
          cases hv
          exact HT.out.ok _ _ hu
  · have hlk : ∀ w' : World, Below wa.heap.size wa w' → (Instr.lookup 124 (.map (some m)) (.agg #[.int .i64 (K : Int), .int .i64 l, .bool e]) true).run Try.prog w' = .ok (.tuple #[chV P sl ss ((K : Int), l, e), .bool true]) w' := fun w' hb => by rw [← HT1.out.ok _ _ ha]; exact look_some (enc := encS) key_site Try.underlying124 (HT1.out.map.below hb) ha
    clear ha
    unfold chV at hlk ⊢
    have HLK := Lib.hid hlk
    clear hlk
    generalize (chK P sl ss ((K : Int), l, e)).1 = r1 at *
    generalize (chK P sl ss ((K : Int), l, e)).2.1 = r2 at *
    generalize (chK P sl ss ((K : Int), l, e)).2.2.1 = r3 at *
    generalize (chK P sl ss ((K : Int), l, e)).2.2.2.1 = r4 at *
    go_enter Try.func66, Try.ntmps66
    go_wp2_with fail
    clear hwa
    refine wp_region_held_drew (S := fun w' => Below wa.heap.size wa w') (by kernel_rfl) (Below.refl wa.heap.size wa).drew (fun hS => ?_)
    refine tk1 0 (.pointer (some ⟨b, 0, none⟩)) rfl (fun w' hSw => by go_simp) hS ?_
    try simp only [Act.put, xs0, xs1, xs2]
    refine tk1 1 (.pointer (some ⟨b, 0, none⟩)) rfl (fun w' hSw => by have z_y5 := kbc hSw y5; go_simp) hS ?_
    try simp only [Act.put, xs0, xs1, xs2]
    refine tk1 2 (.pointer (some ⟨b, 5, none⟩)) rfl (fun w' hSw => by go_simp) hS ?_
    try simp only [Act.put, xs0, xs1, xs2]
    refine tk1 3 (.map (some m)) rfl (fun w' hSw => by have z_y5 := kbc hSw y5; go_simp) hS ?_
    try simp only [Act.put, xs0, xs1, xs2]
    refine tk1 4 (.agg #[.int .i64 (K : Int), .int .i64 l, .bool e]) rfl (fun w' hSw => by have z_x0 := kbc hSw x0; have z_x1 := kbc hSw x1; have z_x2 := kbc hSw x2; go_simp) hS ?_
    try simp only [Act.put, xs0, xs1, xs2]
    refine tk1 5 (.tuple #[.agg #[.int .i64 r1, .int .i64 r2, .int .i64 r3, .int .i64 r4], .bool true]) rfl (fun w' hSw => by have zl := HLK.out w' hSw; go_simp) hS ?_
    try simp only [Act.put, xs0, xs1, xs2]
    refine tk1 6 (.tuple #[.agg #[.int .i64 r1, .int .i64 r2, .int .i64 r3, .int .i64 r4], .bool true]) rfl (fun w' hSw => by go_simp) hS ?_
    try simp only [Act.put, xs0, xs1, xs2]
    refine tk1 7 (.agg #[.int .i64 r1, .int .i64 r2, .int .i64 r3, .int .i64 r4]) rfl (fun w' hSw => by go_simp) hS ?_
    try simp only [Act.put, xs0, xs1, xs2]
    refine tk1 8 (.bool true) rfl (fun w' hSw => by go_simp) hS ?_
    try simp only [Act.put, xs0, xs1, xs2]
    refine wpAnyH_ready (rs := [9]) (by kernel_rfl) (by simp) ?_
    refine AllReadyH.cons (o := _) rfl (fun K' hK => ?_) AllReadyH.nil
    go_simp
    obtain ⟨wb, hwb⟩ : ∃ wb, (wa.alloc (.cells #[.int .i64 0, .int .i64 0, .int .i64 0, .int .i64 0] 132 (0, 0))).drew = wb := ⟨_, rfl⟩
    have hbb : Below wa.heap.size wa wb := by rw [← hwb]; exact ((Below.refl wa.heap.size wa).alloc (Nat.le_refl _) _).drew
    have hb5 : Blk wb wa.heap.size #[.int .i64 0, .int .i64 0, .int .i64 0, .int .i64 0] 132 := by rw [← hwb]; exact (Blk.new wa _ _).drew
    rw [hwb]
    refine hK.out _ _ hbb (fun hS => ?_)
    clear hK K'
    try simp only [Act.put, xs0, xs1, xs2]
    refine wpAnyH_ready (rs := [10]) (by kernel_rfl) (by simp) ?_
    refine AllReadyH.cons (o := _) rfl (fun K' hK => ?_) AllReadyH.nil
    have q0 := hb5.cell 0
    have q1 := hb5.cell 1
    have q2 := hb5.cell 2
    have q3 := hb5.cell 3
    have f0 := hb5.free 0
    have f1 := hb5.free 1
    have f2 := hb5.free 2
    have f3 := hb5.free 3
    simp at q0 q1 q2 q3
    go_simp
    obtain ⟨wc, hwc⟩ : ∃ wc, (((wb.setCell ⟨wa.heap.size, 0, none⟩ (.int .i64 r1)).setCell ⟨wa.heap.size, 1, none⟩ (.int .i64 r2)).setCell ⟨wa.heap.size, 2, none⟩ (.int .i64 r3)).setCell ⟨wa.heap.size, 3, none⟩ (.int .i64 r4) = wc := ⟨_, rfl⟩
    have hbc : Below wa.heap.size wa wc := by rw [← hwc]; exact below_four _ _ _ _ hbb (Nat.le_refl _)
    have hc5 : Blk wc wa.heap.size #[.int .i64 r1, .int .i64 r2, .int .i64 r3, .int .i64 r4] 132 := by rw [← hwc]; exact blk_four _ _ _ _ hb5
    rw [hwc]
    refine hK.out _ _ hbc (fun hS => ?_)
    clear hK K' hwc hwb hb5 q0 q1 q2 q3 f0 f1 f2 f3
    try simp only [Act.put, xs0, xs1, xs2]
    refine tk1 11 (.bool true) rfl (fun w' hSw => by go_simp) hS ?_
    try simp only [Act.put, xs0, xs1, xs2]
    refine wpAnyH_done (by kernel_rfl) ?_ _
    have HBC := Lib.hid hbc
    have HC5 := Lib.hid hc5
    clear hS hbc hc5 hbb
    have HB4c := Lib.hid (HB4.out.below HBC.out HB4.out.lt)
    have u0 := HC5.out.cell 0
    have u1 := HC5.out.cell 1
    have u2 := HC5.out.cell 2
    have u3 := HC5.out.cell 3
    have t0 := HB4c.out.cell 0
    have t1 := HB4c.out.cell 1
    have t2 := HB4c.out.cell 2
    have t3 := HB4c.out.cell 3
    have v0 := HB4c.out.free 0
    have v1 := HB4c.out.free 1
    have v2 := HB4c.out.free 2
    have v3 := HB4c.out.free 3
    simp at u0 u1 u2 u3 t0 t1 t2 t3
    go_wp2
    have hbF := blk_four (.int .i64 r1) (.int .i64 r2) (.int .i64 r3) (.int .i64 r4) HB4c.out
    refine bodyPost_ret (results_cell_row rfl _ _ (w.heap.size + 1) 132 _ (0, 0) _ rfl hbF Try.underlying132 rfl (by kernel_rfl)) rfl ?_
    have hf := below_four (.int .i64 r1) (.int .i64 r2) (.int .i64 r3) (.int .i64 r4) (HW.out.trans (HBC.out.mono HW.out.size)) (show w.heap.size ≤ w.heap.size + 1 by omega)
    exact ⟨rfl, But.of_below hf (Nat.le_refl _), L, HT.out.below hf⟩
end Go.Proofs.Yteigcddmbpfahaa.Cn
