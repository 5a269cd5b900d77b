import Derived.Test.YteigcddmbpfahaaF1
import Derived.Test.YteigcddmbpfahaaTk
set_option linter.unusedVariables false
set_option linter.unusedSimpArgs false
namespace Go.Proofs.Yteigcddmbpfahaa.Cn
set_option linter.unusedVariables false
open Go.RowKit Go.Proofs.YteigcddmbpfahaaW.PrintWords Go.Proofs.YteigcddmbpfahaaW.PrintLast Go.Proofs.YteigcddmbpfahaaW.PrintMore

theorem box6 {w : World} {n : Nat} {t : TypeId} {u0 u1 u2 u3 u4 u5 : Value} (h : Blk w n #[u0, u1, u2, u3, u4, u5] t) :
    w.cell? ⟨n, 0, none⟩ = some u0 ∧ w.cell? ⟨n, 1, none⟩ = some u1 ∧ w.cell? ⟨n, 2, none⟩ = some u2 ∧ w.cell? ⟨n, 3, none⟩ = some u3 ∧ w.cell? ⟨n, 4, none⟩ = some u4 ∧ w.cell? ⟨n, 5, none⟩ = some u5 :=
  ⟨h.cell 0, h.cell 1, h.cell 2, h.cell 3, h.cell 4, h.cell 5⟩
theorem chain {w wd w' : World} {p : Prop} (h : Hid (Below w.heap.size w wd)) (hS : Below wd.heap.size wd w' ∧ p) : Below w.heap.size w w' := h.out.trans (hS.1.mono h.out.size)
def EMap (w : World) (m : Nat) : Prop := w.heap[m]? = some (.map #[] 0) ∧ m < w.heap.size
theorem EMap.below {w w' : World} {m : Nat} (h : EMap w m) (hb : Below w.heap.size w w') : EMap w' m := ⟨(hb.block m h.2).trans h.1, Nat.lt_of_lt_of_le h.2 hb.size⟩
theorem EMap.alloc {w : World} {m : Nat} (h : EMap w m) (o : Obj) : EMap (w.alloc o) m := h.below ((Below.refl w.heap.size w).alloc (Nat.le_refl _) o)
theorem EMap.new (w : World) : EMap (w.alloc (.map #[] 0)) w.heap.size := ⟨(MapKept.heap_alloc w _).1, by simp⟩

set_option maxRecDepth 100000 in
set_option maxHeartbeats 8000000 in
theorem f_below (A : Option Addr) (c : Nat) (bins : List (List S102)) (P b0 b1 a0 a1 : Int) (At : Option Addr) (ct : Nat) (lt : List S66) (k op : Int) (w : World)
    (hr : Kd.C (Kd.slice 102 k102) w A bins.length bins) (hc : bins.length ≤ c) (hg : SkyG P bins b0 b1 a0 a1) (hrt : Kd.C k66 w At lt.length lt) (hct : lt.length ≤ ct) (hgt : RngG lt)
    (hk0 : 0 ≤ k) (hk1 : k < bins.length) (ho0 : 0 ≤ op) (ho1 : op ≤ 1000000) :
    Calls Try.prog 28 #[.agg #[.int .i64 P, .slice A bins.length c, .int .i64 b0, .int .i64 b1, .int .i64 a0, .int .i64 a1], .slice At lt.length ct, .int .i64 k, .int .i64 op] w fun e w' => ∃ b m : Nat, e = .returned (.tuple #[.pointer (some ⟨b, 0, none⟩), .bool true]) ∧ w.heap.size ≤ b ∧ w.heap.size ≤ m ∧ b ≠ m ∧
      Blk w' b #[.int .i64 P, .slice A bins.length c, .int .i64 b0, .int .i64 b1, .int .i64 a0, .int .i64 a1, .slice At lt.length ct, .map (some m)] 107 ∧ EMap w' m ∧ Below w.heap.size w w' := by
  have hn20 := hg.n2
  have HC := Lib.hid hr
  have HCt := Lib.hid hrt
  have HG := Lib.hid hg
  have HGt := Lib.hid hgt
  have hwr : IntKind.i64.wrap ((bins.length : Int) - 1) = (bins.length : Int) - 1 := by rw [IntKind.wrap_i64]; omega
  clear hr hrt hg hgt
  go_enter Try.func28, Try.ntmps28
  go_wp2_with fail
  obtain ⟨wa, hwa⟩ : ∃ wa, w.alloc (.cells #[.int .i64 P, .slice A bins.length c, .int .i64 b0, .int .i64 b1, .int .i64 a0, .int .i64 a1] 26 (0, 0)) = wa := ⟨_, rfl⟩
  rw [hwa]
  have hB : Blk wa.drew w.heap.size #[.int .i64 P, .slice A bins.length c, .int .i64 b0, .int .i64 b1, .int .i64 a0, .int .i64 a1] 26 := by rw [← hwa]; exact (Blk.new w _ _).drew
  have hW : Below w.heap.size w wa.drew := by rw [← hwa]; exact ((Below.refl w.heap.size w).alloc (Nat.le_refl _) _).drew
  have hz : w.heap.size < wa.drew.heap.size := by rw [← hwa]; show w.heap.size < (w.alloc _).heap.size; simp
  have HW := Lib.hid hW
  have HZ := Lib.hid hz
  clear hwa hW hz
  refine wp_region_held_drew (S := fun w' => Below wa.drew.heap.size wa.drew w' ∧ Blk w' w.heap.size #[.int .i64 P, .slice A bins.length c, .int .i64 b0, .int .i64 b1, .int .i64 a0, .int .i64 a1] 26) (by kernel_rfl) ⟨Below.refl _ _, hB⟩ (fun hS => ?_)
  clear hB
  refine tk1 0 (.agg #[.int .i64 P, .slice A bins.length c, .int .i64 b0, .int .i64 b1, .int .i64 a0, .int .i64 a1]) rfl (fun w' hSw => by obtain ⟨z0, z1, z2, z3, z4, z5⟩ := box6 hSw.2; go_simp) hS ?_
  try simp only [Act.put, xg0, xg1, xg2, xs0, xs1, xs2]
  refine tk1 1 (.slice At lt.length ct) rfl (fun w' hSw => by obtain ⟨z0, z1, z2, z3, z4, z5⟩ := box6 hSw.2; go_simp) hS ?_
  try simp only [Act.put, xg0, xg1, xg2, xs0, xs1, xs2]
  refine tk1 5 (.agg #[.int .i64 P, .slice A bins.length c, .int .i64 b0, .int .i64 b1, .int .i64 a0, .int .i64 a1]) rfl (fun w' hSw => by obtain ⟨z0, z1, z2, z3, z4, z5⟩ := box6 hSw.2; go_simp) hS ?_
  try simp only [Act.put, xg0, xg1, xg2, xs0, xs1, xs2]
  refine wpAnyH_ready (rs := [2, 6]) (by kernel_rfl) (by simp) ?_
  refine AllReadyH.cons (o := _) rfl (fun K hK => ?_) ?_
  · skip
    obtain ⟨w1_, hw2⟩ : ∃ w2, wa.drew.alloc (.map #[] 0) = w2 := ⟨_, rfl⟩
    have HMP := Lib.hid (show EMap w1_ wa.drew.heap.size by rw [← hw2]; exact EMap.new _)
    have hS2 : Below wa.drew.heap.size wa.drew w1_ ∧ Blk w1_ w.heap.size #[.int .i64 P, .slice A bins.length c, .int .i64 b0, .int .i64 b1, .int .i64 a0, .int .i64 a1] 26 := by rw [← hw2]; exact ⟨hS.1.alloc hS.1.size _, hS.2.alloc _⟩
    have hQ0 := Lib.hid hS.1.size
    have HW2 := Lib.hid hw2
    clear hw2
    go_simp
    show K _ (wa.drew.alloc (.map #[] 0))
    rw [HW2.out]
    refine hK.out _ _ hS2 (fun hS => ?_)
    clear hK K HW2 hS2
    try simp only [Act.put, xg0, xg1, xg2, xs0, xs1, xs2]
    refine tk1 3 (.agg #[.int .i64 P, .slice A bins.length c, .int .i64 b0, .int .i64 b1, .int .i64 a0, .int .i64 a1, .slice At lt.length ct, .map (some wa.drew.heap.size)]) rfl (fun w' hSw => by obtain ⟨z0, z1, z2, z3, z4, z5⟩ := box6 hSw.2; go_simp) hS ?_
    try simp only [Act.put, xg0, xg1, xg2, xs0, xs1, xs2]
    refine wpAnyH_ready (rs := [4, 6]) (by kernel_rfl) (by simp) ?_
    refine AllReadyH.cons (o := _) rfl (fun K hK => ?_) ?_
    · skip
      obtain ⟨w2_, hw2⟩ : ∃ w2, w1_.alloc (.cells #[.int .i64 P, .slice A bins.length c, .int .i64 b0, .int .i64 b1, .int .i64 a0, .int .i64 a1, .slice At lt.length ct, .map (some wa.drew.heap.size)] 107 (0, 0)) = w2 := ⟨_, rfl⟩
      have HBX := Lib.hid (show Blk w2_ w1_.heap.size #[.int .i64 P, .slice A bins.length c, .int .i64 b0, .int .i64 b1, .int .i64 a0, .int .i64 a1, .slice At lt.length ct, .map (some wa.drew.heap.size)] 107 by rw [← hw2]; exact Blk.new _ _ _)
      have hQ := Lib.hid (show wa.drew.heap.size ≤ wa.drew.heap.size ∧ wa.drew.heap.size < w1_.heap.size from ⟨hQ0.out, HMP.out.2⟩)
      have HMP := Lib.hid (show EMap w2_ wa.drew.heap.size by rw [← hw2]; exact HMP.out.alloc _)
      have hS2 : Below wa.drew.heap.size wa.drew w2_ ∧ Blk w2_ w.heap.size #[.int .i64 P, .slice A bins.length c, .int .i64 b0, .int .i64 b1, .int .i64 a0, .int .i64 a1] 26 := by rw [← hw2]; exact ⟨hS.1.alloc hS.1.size _, hS.2.alloc _⟩
      have HW2 := Lib.hid hw2
      clear hw2
      go_simp
      show K _ (w1_.alloc (.cells #[.int .i64 P, .slice A bins.length c, .int .i64 b0, .int .i64 b1, .int .i64 a0, .int .i64 a1, .slice At lt.length ct, .map (some wa.drew.heap.size)] 107 (0, 0)))
      rw [HW2.out]
      refine hK.out _ _ hS2 (fun hS => ?_)
      clear hK K HW2 hS2
      try simp only [Act.put, xg0, xg1, xg2, xs0, xs1, xs2]
      refine wpAnyH_ready (rs := [6]) (by kernel_rfl) (by simp) ?_
      refine AllReadyH.cons (o := _) rfl (fun K hK => ?_) AllReadyH.nil
      go_simp
      refine (f_skied A c bins P b0 b1 a0 a1 _ (Kd.C_below HC.out (chain HW hS)) hc HG.out).mono ?_
      rintro e2 w3_ ⟨rfl, hb2⟩
      go_wp2_with fail
      refine hK.out _ _ ⟨hS.1.trans (hb2.mono hS.1.size), hS.2.below hb2 hS.2.lt⟩ (fun hS => ?_)
      clear hK K
      try simp only [Act.put, xg0, xg1, xg2, xs0, xs1, xs2]
      have HMP := Lib.hid (HMP.out.below hb2)
      have HBX := Lib.hid (HBX.out.below hb2 HBX.out.lt)
      clear hb2
      refine tk1 7 (.bool true) rfl (fun w' hSw => by obtain ⟨z0, z1, z2, z3, z4, z5⟩ := box6 hSw.2; go_simp) hS ?_
      try simp only [Act.put, xg0, xg1, xg2, xs0, xs1, xs2]
      refine tk1 8 (.slice At lt.length ct) rfl (fun w' hSw => by obtain ⟨z0, z1, z2, z3, z4, z5⟩ := box6 hSw.2; go_simp) hS ?_
      try simp only [Act.put, xg0, xg1, xg2, xs0, xs1, xs2]
      refine wpAnyH_ready (rs := [9]) (by kernel_rfl) (by simp) ?_
      refine AllReadyH.cons (o := _) rfl (fun K hK => ?_) AllReadyH.nil
      go_simp
      refine (f_ranged At ct lt _ (Kd.C_below HCt.out (chain HW hS)) hct HGt.out).mono ?_
      rintro e2 w4_ ⟨rfl, hb2⟩
      go_wp2_with fail
      refine hK.out _ _ ⟨hS.1.trans (hb2.mono hS.1.size), hS.2.below hb2 hS.2.lt⟩ (fun hS => ?_)
      clear hK K
      try simp only [Act.put, xg0, xg1, xg2, xs0, xs1, xs2]
      have HMP := Lib.hid (HMP.out.below hb2)
      have HBX := Lib.hid (HBX.out.below hb2 HBX.out.lt)
      clear hb2
      refine tk1 10 (.bool true) rfl (fun w' hSw => by obtain ⟨z0, z1, z2, z3, z4, z5⟩ := box6 hSw.2; go_simp) hS ?_
      try simp only [Act.put, xg0, xg1, xg2, xs0, xs1, xs2]
      refine tk1 11 (.bool true) rfl (fun w' hSw => by obtain ⟨z0, z1, z2, z3, z4, z5⟩ := box6 hSw.2; go_simp) hS ?_
      try simp only [Act.put, xg0, xg1, xg2, xs0, xs1, xs2]
      refine tk1 12 (.int .i64 k) rfl (fun w' hSw => by obtain ⟨z0, z1, z2, z3, z4, z5⟩ := box6 hSw.2; go_simp) hS ?_
      try simp only [Act.put, xg0, xg1, xg2, xs0, xs1, xs2]
      refine tk1 13 (.pointer (some ⟨w.heap.size, 1, none⟩)) rfl (fun w' hSw => by obtain ⟨z0, z1, z2, z3, z4, z5⟩ := box6 hSw.2; go_simp) hS ?_
      try simp only [Act.put, xg0, xg1, xg2, xs0, xs1, xs2]
      refine tk1 14 (.slice A bins.length c) rfl (fun w' hSw => by obtain ⟨z0, z1, z2, z3, z4, z5⟩ := box6 hSw.2; go_simp) hS ?_
      try simp only [Act.put, xg0, xg1, xg2, xs0, xs1, xs2]
      refine tk1 15 (.int .i64 (bins.length : Int)) rfl (fun w' hSw => by obtain ⟨z0, z1, z2, z3, z4, z5⟩ := box6 hSw.2; go_simp) hS ?_
      try simp only [Act.put, xg0, xg1, xg2, xs0, xs1, xs2]
      refine tk1 16 (.int .i64 ((bins.length : Int) - 1)) rfl (fun w' hSw => by obtain ⟨z0, z1, z2, z3, z4, z5⟩ := box6 hSw.2; go_simp) hS ?_
      try simp only [Act.put, xg0, xg1, xg2, xs0, xs1, xs2]
      refine wpAnyH_ready (rs := [17]) (by kernel_rfl) (by simp) ?_
      refine AllReadyH.cons (o := _) rfl (fun K hK => ?_) AllReadyH.nil
      go_simp
      refine (f_within k 0 ((bins.length : Int) - 1) _ hk0 (by omega)).mono ?_
      rintro e2 w5_ ⟨rfl, rfl⟩
      go_wp2_with fail
      refine hK.out _ _ hS (fun hS => ?_)
      clear hK K
      try simp only [Act.put, xg0, xg1, xg2, xs0, xs1, xs2]
      refine tk1 18 (.bool true) rfl (fun w' hSw => by obtain ⟨z0, z1, z2, z3, z4, z5⟩ := box6 hSw.2; go_simp) hS ?_
      try simp only [Act.put, xg0, xg1, xg2, xs0, xs1, xs2]
      refine tk1 19 (.bool true) rfl (fun w' hSw => by obtain ⟨z0, z1, z2, z3, z4, z5⟩ := box6 hSw.2; go_simp) hS ?_
      try simp only [Act.put, xg0, xg1, xg2, xs0, xs1, xs2]
      refine tk1 20 (.int .i64 op) rfl (fun w' hSw => by obtain ⟨z0, z1, z2, z3, z4, z5⟩ := box6 hSw.2; go_simp) hS ?_
      try simp only [Act.put, xg0, xg1, xg2, xs0, xs1, xs2]
      refine wpAnyH_ready (rs := [21]) (by kernel_rfl) (by simp) ?_
      refine AllReadyH.cons (o := _) rfl (fun K hK => ?_) AllReadyH.nil
      go_simp
      refine (f_within op 0 1000000 _ ho0 ho1).mono ?_
      rintro e2 w6_ ⟨rfl, rfl⟩
      go_wp2_with fail
      refine hK.out _ _ hS (fun hS => ?_)
      clear hK K
      try simp only [Act.put, xg0, xg1, xg2, xs0, xs1, xs2]
      refine tk1 22 (.bool true) rfl (fun w' hSw => by obtain ⟨z0, z1, z2, z3, z4, z5⟩ := box6 hSw.2; go_simp) hS ?_
      try simp only [Act.put, xg0, xg1, xg2, xs0, xs1, xs2]
      refine tk1 23 (.pointer (some ⟨w1_.heap.size, 0, none⟩)) rfl (fun w' hSw => by obtain ⟨z0, z1, z2, z3, z4, z5⟩ := box6 hSw.2; go_simp) hS ?_
      try simp only [Act.put, xg0, xg1, xg2, xs0, xs1, xs2]
      refine tk1 24 (.bool true) rfl (fun w' hSw => by obtain ⟨z0, z1, z2, z3, z4, z5⟩ := box6 hSw.2; go_simp) hS ?_
      try simp only [Act.put, xg0, xg1, xg2, xs0, xs1, xs2]
      refine wpAnyH_done (by kernel_rfl) ?_ _
      go_wp2
      go_ret2
      exact ⟨_, _, rfl, by have := HZ.out; have := hQ.out; omega, by have := HZ.out; have := hQ.out; omega, by have := hQ.out; omega, HBX.out, HMP.out, chain HW hS⟩
    refine AllReadyH.cons (o := _) rfl (fun K hK => ?_) AllReadyH.nil
    go_simp
    refine (f_skied A c bins P b0 b1 a0 a1 _ (Kd.C_below HC.out (chain HW hS)) hc HG.out).mono ?_
    rintro e2 w7_ ⟨rfl, hb2⟩
    go_wp2_with fail
    refine hK.out _ _ ⟨hS.1.trans (hb2.mono hS.1.size), hS.2.below hb2 hS.2.lt⟩ (fun hS => ?_)
    clear hK K
    try simp only [Act.put, xg0, xg1, xg2, xs0, xs1, xs2]
    have HMP := Lib.hid (HMP.out.below hb2)
    clear hb2
    refine tk1 7 (.bool true) rfl (fun w' hSw => by obtain ⟨z0, z1, z2, z3, z4, z5⟩ := box6 hSw.2; go_simp) hS ?_
    try simp only [Act.put, xg0, xg1, xg2, xs0, xs1, xs2]
    refine tk1 8 (.slice At lt.length ct) rfl (fun w' hSw => by obtain ⟨z0, z1, z2, z3, z4, z5⟩ := box6 hSw.2; go_simp) hS ?_
    try simp only [Act.put, xg0, xg1, xg2, xs0, xs1, xs2]
    refine wpAnyH_ready (rs := [4, 9]) (by kernel_rfl) (by simp) ?_
    refine AllReadyH.cons (o := _) rfl (fun K hK => ?_) ?_
    · skip
      obtain ⟨w8_, hw2⟩ : ∃ w2, w7_.alloc (.cells #[.int .i64 P, .slice A bins.length c, .int .i64 b0, .int .i64 b1, .int .i64 a0, .int .i64 a1, .slice At lt.length ct, .map (some wa.drew.heap.size)] 107 (0, 0)) = w2 := ⟨_, rfl⟩
      have HBX := Lib.hid (show Blk w8_ w7_.heap.size #[.int .i64 P, .slice A bins.length c, .int .i64 b0, .int .i64 b1, .int .i64 a0, .int .i64 a1, .slice At lt.length ct, .map (some wa.drew.heap.size)] 107 by rw [← hw2]; exact Blk.new _ _ _)
      have hQ := Lib.hid (show wa.drew.heap.size ≤ wa.drew.heap.size ∧ wa.drew.heap.size < w7_.heap.size from ⟨hQ0.out, HMP.out.2⟩)
      have HMP := Lib.hid (show EMap w8_ wa.drew.heap.size by rw [← hw2]; exact HMP.out.alloc _)
      have hS2 : Below wa.drew.heap.size wa.drew w8_ ∧ Blk w8_ w.heap.size #[.int .i64 P, .slice A bins.length c, .int .i64 b0, .int .i64 b1, .int .i64 a0, .int .i64 a1] 26 := by rw [← hw2]; exact ⟨hS.1.alloc hS.1.size _, hS.2.alloc _⟩
      have HW2 := Lib.hid hw2
      clear hw2
      go_simp
      show K _ (w7_.alloc (.cells #[.int .i64 P, .slice A bins.length c, .int .i64 b0, .int .i64 b1, .int .i64 a0, .int .i64 a1, .slice At lt.length ct, .map (some wa.drew.heap.size)] 107 (0, 0)))
      rw [HW2.out]
      refine hK.out _ _ hS2 (fun hS => ?_)
      clear hK K HW2 hS2
      try simp only [Act.put, xg0, xg1, xg2, xs0, xs1, xs2]
      refine wpAnyH_ready (rs := [9]) (by kernel_rfl) (by simp) ?_
      refine AllReadyH.cons (o := _) rfl (fun K hK => ?_) AllReadyH.nil
      go_simp
      refine (f_ranged At ct lt _ (Kd.C_below HCt.out (chain HW hS)) hct HGt.out).mono ?_
      rintro e2 w9_ ⟨rfl, hb2⟩
      go_wp2_with fail
      refine hK.out _ _ ⟨hS.1.trans (hb2.mono hS.1.size), hS.2.below hb2 hS.2.lt⟩ (fun hS => ?_)
      clear hK K
      try simp only [Act.put, xg0, xg1, xg2, xs0, xs1, xs2]
      have HMP := Lib.hid (HMP.out.below hb2)
      have HBX := Lib.hid (HBX.out.below hb2 HBX.out.lt)
      clear hb2
      refine tk1 10 (.bool true) rfl (fun w' hSw => by obtain ⟨z0, z1, z2, z3, z4, z5⟩ := box6 hSw.2; go_simp) hS ?_
      try simp only [Act.put, xg0, xg1, xg2, xs0, xs1, xs2]
      refine tk1 11 (.bool true) rfl (fun w' hSw => by obtain ⟨z0, z1, z2, z3, z4, z5⟩ := box6 hSw.2; go_simp) hS ?_
      try simp only [Act.put, xg0, xg1, xg2, xs0, xs1, xs2]
      refine tk1 12 (.int .i64 k) rfl (fun w' hSw => by obtain ⟨z0, z1, z2, z3, z4, z5⟩ := box6 hSw.2; go_simp) hS ?_
      try simp only [Act.put, xg0, xg1, xg2, xs0, xs1, xs2]
      refine tk1 13 (.pointer (some ⟨w.heap.size, 1, none⟩)) rfl (fun w' hSw => by obtain ⟨z0, z1, z2, z3, z4, z5⟩ := box6 hSw.2; go_simp) hS ?_
      try simp only [Act.put, xg0, xg1, xg2, xs0, xs1, xs2]
      refine tk1 14 (.slice A bins.length c) rfl (fun w' hSw => by obtain ⟨z0, z1, z2, z3, z4, z5⟩ := box6 hSw.2; go_simp) hS ?_
      try simp only [Act.put, xg0, xg1, xg2, xs0, xs1, xs2]
      refine tk1 15 (.int .i64 (bins.length : Int)) rfl (fun w' hSw => by obtain ⟨z0, z1, z2, z3, z4, z5⟩ := box6 hSw.2; go_simp) hS ?_
      try simp only [Act.put, xg0, xg1, xg2, xs0, xs1, xs2]
      refine tk1 16 (.int .i64 ((bins.length : Int) - 1)) rfl (fun w' hSw => by obtain ⟨z0, z1, z2, z3, z4, z5⟩ := box6 hSw.2; go_simp) hS ?_
      try simp only [Act.put, xg0, xg1, xg2, xs0, xs1, xs2]
      refine wpAnyH_ready (rs := [17]) (by kernel_rfl) (by simp) ?_
      refine AllReadyH.cons (o := _) rfl (fun K hK => ?_) AllReadyH.nil
      go_simp
      refine (f_within k 0 ((bins.length : Int) - 1) _ hk0 (by omega)).mono ?_
      rintro e2 w10_ ⟨rfl, rfl⟩
      go_wp2_with fail
      refine hK.out _ _ hS (fun hS => ?_)
      clear hK K
      try simp only [Act.put, xg0, xg1, xg2, xs0, xs1, xs2]
      refine tk1 18 (.bool true) rfl (fun w' hSw => by obtain ⟨z0, z1, z2, z3, z4, z5⟩ := box6 hSw.2; go_simp) hS ?_
      try simp only [Act.put, xg0, xg1, xg2, xs0, xs1, xs2]
      refine tk1 19 (.bool true) rfl (fun w' hSw => by obtain ⟨z0, z1, z2, z3, z4, z5⟩ := box6 hSw.2; go_simp) hS ?_
      try simp only [Act.put, xg0, xg1, xg2, xs0, xs1, xs2]
      refine tk1 20 (.int .i64 op) rfl (fun w' hSw => by obtain ⟨z0, z1, z2, z3, z4, z5⟩ := box6 hSw.2; go_simp) hS ?_
      try simp only [Act.put, xg0, xg1, xg2, xs0, xs1, xs2]
      refine wpAnyH_ready (rs := [21]) (by kernel_rfl) (by simp) ?_
      refine AllReadyH.cons (o := _) rfl (fun K hK => ?_) AllReadyH.nil
      go_simp
      refine (f_within op 0 1000000 _ ho0 ho1).mono ?_
      rintro e2 w11_ ⟨rfl, rfl⟩
      go_wp2_with fail
      refine hK.out _ _ hS (fun hS => ?_)
      clear hK K
      try simp only [Act.put, xg0, xg1, xg2, xs0, xs1, xs2]
      refine tk1 22 (.bool true) rfl (fun w' hSw => by obtain ⟨z0, z1, z2, z3, z4, z5⟩ := box6 hSw.2; go_simp) hS ?_
      try simp only [Act.put, xg0, xg1, xg2, xs0, xs1, xs2]
      refine tk1 23 (.pointer (some ⟨w7_.heap.size, 0, none⟩)) rfl (fun w' hSw => by obtain ⟨z0, z1, z2, z3, z4, z5⟩ := box6 hSw.2; go_simp) hS ?_
      try simp only [Act.put, xg0, xg1, xg2, xs0, xs1, xs2]
      refine tk1 24 (.bool true) rfl (fun w' hSw => by obtain ⟨z0, z1, z2, z3, z4, z5⟩ := box6 hSw.2; go_simp) hS ?_
      try simp only [Act.put, xg0, xg1, xg2, xs0, xs1, xs2]
      refine wpAnyH_done (by kernel_rfl) ?_ _
      go_wp2
      go_ret2
      exact ⟨_, _, rfl, by have := HZ.out; have := hQ.out; omega, by have := HZ.out; have := hQ.out; omega, by have := hQ.out; omega, HBX.out, HMP.out, chain HW hS⟩
    refine AllReadyH.cons (o := _) rfl (fun K hK => ?_) AllReadyH.nil
    go_simp
    refine (f_ranged At ct lt _ (Kd.C_below HCt.out (chain HW hS)) hct HGt.out).mono ?_
    rintro e2 w12_ ⟨rfl, hb2⟩
    go_wp2_with fail
    refine hK.out _ _ ⟨hS.1.trans (hb2.mono hS.1.size), hS.2.below hb2 hS.2.lt⟩ (fun hS => ?_)
    clear hK K
    try simp only [Act.put, xg0, xg1, xg2, xs0, xs1, xs2]
    have HMP := Lib.hid (HMP.out.below hb2)
    clear hb2
    refine tk1 10 (.bool true) rfl (fun w' hSw => by obtain ⟨z0, z1, z2, z3, z4, z5⟩ := box6 hSw.2; go_simp) hS ?_
    try simp only [Act.put, xg0, xg1, xg2, xs0, xs1, xs2]
    refine tk1 11 (.bool true) rfl (fun w' hSw => by obtain ⟨z0, z1, z2, z3, z4, z5⟩ := box6 hSw.2; go_simp) hS ?_
    try simp only [Act.put, xg0, xg1, xg2, xs0, xs1, xs2]
    refine tk1 12 (.int .i64 k) rfl (fun w' hSw => by obtain ⟨z0, z1, z2, z3, z4, z5⟩ := box6 hSw.2; go_simp) hS ?_
    try simp only [Act.put, xg0, xg1, xg2, xs0, xs1, xs2]
    refine tk1 13 (.pointer (some ⟨w.heap.size, 1, none⟩)) rfl (fun w' hSw => by obtain ⟨z0, z1, z2, z3, z4, z5⟩ := box6 hSw.2; go_simp) hS ?_
    try simp only [Act.put, xg0, xg1, xg2, xs0, xs1, xs2]
    refine tk1 14 (.slice A bins.length c) rfl (fun w' hSw => by obtain ⟨z0, z1, z2, z3, z4, z5⟩ := box6 hSw.2; go_simp) hS ?_
    try simp only [Act.put, xg0, xg1, xg2, xs0, xs1, xs2]
    refine tk1 15 (.int .i64 (bins.length : Int)) rfl (fun w' hSw => by obtain ⟨z0, z1, z2, z3, z4, z5⟩ := box6 hSw.2; go_simp) hS ?_
    try simp only [Act.put, xg0, xg1, xg2, xs0, xs1, xs2]
    refine tk1 16 (.int .i64 ((bins.length : Int) - 1)) rfl (fun w' hSw => by obtain ⟨z0, z1, z2, z3, z4, z5⟩ := box6 hSw.2; go_simp) hS ?_
    try simp only [Act.put, xg0, xg1, xg2, xs0, xs1, xs2]
    refine wpAnyH_ready (rs := [4, 17]) (by kernel_rfl) (by simp) ?_
    refine AllReadyH.cons (o := _) rfl (fun K hK => ?_) ?_
    · skip
      obtain ⟨w13_, hw2⟩ : ∃ w2, w12_.alloc (.cells #[.int .i64 P, .slice A bins.length c, .int .i64 b0, .int .i64 b1, .int .i64 a0, .int .i64 a1, .slice At lt.length ct, .map (some wa.drew.heap.size)] 107 (0, 0)) = w2 := ⟨_, rfl⟩
      have HBX := Lib.hid (show Blk w13_ w12_.heap.size #[.int .i64 P, .slice A bins.length c, .int .i64 b0, .int .i64 b1, .int .i64 a0, .int .i64 a1, .slice At lt.length ct, .map (some wa.drew.heap.size)] 107 by rw [← hw2]; exact Blk.new _ _ _)
      have hQ := Lib.hid (show wa.drew.heap.size ≤ wa.drew.heap.size ∧ wa.drew.heap.size < w12_.heap.size from ⟨hQ0.out, HMP.out.2⟩)
      have HMP := Lib.hid (show EMap w13_ wa.drew.heap.size by rw [← hw2]; exact HMP.out.alloc _)
      have hS2 : Below wa.drew.heap.size wa.drew w13_ ∧ Blk w13_ w.heap.size #[.int .i64 P, .slice A bins.length c, .int .i64 b0, .int .i64 b1, .int .i64 a0, .int .i64 a1] 26 := by rw [← hw2]; exact ⟨hS.1.alloc hS.1.size _, hS.2.alloc _⟩
      have HW2 := Lib.hid hw2
      clear hw2
      go_simp
      show K _ (w12_.alloc (.cells #[.int .i64 P, .slice A bins.length c, .int .i64 b0, .int .i64 b1, .int .i64 a0, .int .i64 a1, .slice At lt.length ct, .map (some wa.drew.heap.size)] 107 (0, 0)))
      rw [HW2.out]
      refine hK.out _ _ hS2 (fun hS => ?_)
      clear hK K HW2 hS2
      try simp only [Act.put, xg0, xg1, xg2, xs0, xs1, xs2]
      refine wpAnyH_ready (rs := [17]) (by kernel_rfl) (by simp) ?_
      refine AllReadyH.cons (o := _) rfl (fun K hK => ?_) AllReadyH.nil
      go_simp
      refine (f_within k 0 ((bins.length : Int) - 1) _ hk0 (by omega)).mono ?_
      rintro e2 w14_ ⟨rfl, rfl⟩
      go_wp2_with fail
      refine hK.out _ _ hS (fun hS => ?_)
      clear hK K
      try simp only [Act.put, xg0, xg1, xg2, xs0, xs1, xs2]
      refine tk1 18 (.bool true) rfl (fun w' hSw => by obtain ⟨z0, z1, z2, z3, z4, z5⟩ := box6 hSw.2; go_simp) hS ?_
      try simp only [Act.put, xg0, xg1, xg2, xs0, xs1, xs2]
      refine tk1 19 (.bool true) rfl (fun w' hSw => by obtain ⟨z0, z1, z2, z3, z4, z5⟩ := box6 hSw.2; go_simp) hS ?_
      try simp only [Act.put, xg0, xg1, xg2, xs0, xs1, xs2]
      refine tk1 20 (.int .i64 op) rfl (fun w' hSw => by obtain ⟨z0, z1, z2, z3, z4, z5⟩ := box6 hSw.2; go_simp) hS ?_
      try simp only [Act.put, xg0, xg1, xg2, xs0, xs1, xs2]
      refine wpAnyH_ready (rs := [21]) (by kernel_rfl) (by simp) ?_
      refine AllReadyH.cons (o := _) rfl (fun K hK => ?_) AllReadyH.nil
      go_simp
      refine (f_within op 0 1000000 _ ho0 ho1).mono ?_
      rintro e2 w15_ ⟨rfl, rfl⟩
      go_wp2_with fail
      refine hK.out _ _ hS (fun hS => ?_)
      clear hK K
      try simp only [Act.put, xg0, xg1, xg2, xs0, xs1, xs2]
      refine tk1 22 (.bool true) rfl (fun w' hSw => by obtain ⟨z0, z1, z2, z3, z4, z5⟩ := box6 hSw.2; go_simp) hS ?_
      try simp only [Act.put, xg0, xg1, xg2, xs0, xs1, xs2]
      refine tk1 23 (.pointer (some ⟨w12_.heap.size, 0, none⟩)) rfl (fun w' hSw => by obtain ⟨z0, z1, z2, z3, z4, z5⟩ := box6 hSw.2; go_simp) hS ?_
      try simp only [Act.put, xg0, xg1, xg2, xs0, xs1, xs2]
      refine tk1 24 (.bool true) rfl (fun w' hSw => by obtain ⟨z0, z1, z2, z3, z4, z5⟩ := box6 hSw.2; go_simp) hS ?_
      try simp only [Act.put, xg0, xg1, xg2, xs0, xs1, xs2]
      refine wpAnyH_done (by kernel_rfl) ?_ _
      go_wp2
      go_ret2
      exact ⟨_, _, rfl, by have := HZ.out; have := hQ.out; omega, by have := HZ.out; have := hQ.out; omega, by have := hQ.out; omega, HBX.out, HMP.out, chain HW hS⟩
    refine AllReadyH.cons (o := _) rfl (fun K hK => ?_) AllReadyH.nil
    go_simp
    refine (f_within k 0 ((bins.length : Int) - 1) _ hk0 (by omega)).mono ?_
    rintro e2 w16_ ⟨rfl, rfl⟩
    go_wp2_with fail
    refine hK.out _ _ hS (fun hS => ?_)
    clear hK K
    try simp only [Act.put, xg0, xg1, xg2, xs0, xs1, xs2]
    refine tk1 18 (.bool true) rfl (fun w' hSw => by obtain ⟨z0, z1, z2, z3, z4, z5⟩ := box6 hSw.2; go_simp) hS ?_
    try simp only [Act.put, xg0, xg1, xg2, xs0, xs1, xs2]
    refine tk1 19 (.bool true) rfl (fun w' hSw => by obtain ⟨z0, z1, z2, z3, z4, z5⟩ := box6 hSw.2; go_simp) hS ?_
    try simp only [Act.put, xg0, xg1, xg2, xs0, xs1, xs2]
    refine tk1 20 (.int .i64 op) rfl (fun w' hSw => by obtain ⟨z0, z1, z2, z3, z4, z5⟩ := box6 hSw.2; go_simp) hS ?_
    try simp only [Act.put, xg0, xg1, xg2, xs0, xs1, xs2]
    refine wpAnyH_ready (rs := [4, 21]) (by kernel_rfl) (by simp) ?_
    refine AllReadyH.cons (o := _) rfl (fun K hK => ?_) ?_
    · skip
      obtain ⟨w17_, hw2⟩ : ∃ w2, w12_.alloc (.cells #[.int .i64 P, .slice A bins.length c, .int .i64 b0, .int .i64 b1, .int .i64 a0, .int .i64 a1, .slice At lt.length ct, .map (some wa.drew.heap.size)] 107 (0, 0)) = w2 := ⟨_, rfl⟩
      have HBX := Lib.hid (show Blk w17_ w12_.heap.size #[.int .i64 P, .slice A bins.length c, .int .i64 b0, .int .i64 b1, .int .i64 a0, .int .i64 a1, .slice At lt.length ct, .map (some wa.drew.heap.size)] 107 by rw [← hw2]; exact Blk.new _ _ _)
      have hQ := Lib.hid (show wa.drew.heap.size ≤ wa.drew.heap.size ∧ wa.drew.heap.size < w12_.heap.size from ⟨hQ0.out, HMP.out.2⟩)
      have HMP := Lib.hid (show EMap w17_ wa.drew.heap.size by rw [← hw2]; exact HMP.out.alloc _)
      have hS2 : Below wa.drew.heap.size wa.drew w17_ ∧ Blk w17_ w.heap.size #[.int .i64 P, .slice A bins.length c, .int .i64 b0, .int .i64 b1, .int .i64 a0, .int .i64 a1] 26 := by rw [← hw2]; exact ⟨hS.1.alloc hS.1.size _, hS.2.alloc _⟩
      have HW2 := Lib.hid hw2
      clear hw2
      go_simp
      show K _ (w12_.alloc (.cells #[.int .i64 P, .slice A bins.length c, .int .i64 b0, .int .i64 b1, .int .i64 a0, .int .i64 a1, .slice At lt.length ct, .map (some wa.drew.heap.size)] 107 (0, 0)))
      rw [HW2.out]
      refine hK.out _ _ hS2 (fun hS => ?_)
      clear hK K HW2 hS2
      try simp only [Act.put, xg0, xg1, xg2, xs0, xs1, xs2]
      refine wpAnyH_ready (rs := [21]) (by kernel_rfl) (by simp) ?_
      refine AllReadyH.cons (o := _) rfl (fun K hK => ?_) AllReadyH.nil
      go_simp
      refine (f_within op 0 1000000 _ ho0 ho1).mono ?_
      rintro e2 w18_ ⟨rfl, rfl⟩
      go_wp2_with fail
      refine hK.out _ _ hS (fun hS => ?_)
      clear hK K
      try simp only [Act.put, xg0, xg1, xg2, xs0, xs1, xs2]
      refine tk1 22 (.bool true) rfl (fun w' hSw => by obtain ⟨z0, z1, z2, z3, z4, z5⟩ := box6 hSw.2; go_simp) hS ?_
      try simp only [Act.put, xg0, xg1, xg2, xs0, xs1, xs2]
      refine tk1 23 (.pointer (some ⟨w12_.heap.size, 0, none⟩)) rfl (fun w' hSw => by obtain ⟨z0, z1, z2, z3, z4, z5⟩ := box6 hSw.2; go_simp) hS ?_
      try simp only [Act.put, xg0, xg1, xg2, xs0, xs1, xs2]
      refine tk1 24 (.bool true) rfl (fun w' hSw => by obtain ⟨z0, z1, z2, z3, z4, z5⟩ := box6 hSw.2; go_simp) hS ?_
      try simp only [Act.put, xg0, xg1, xg2, xs0, xs1, xs2]
      refine wpAnyH_done (by kernel_rfl) ?_ _
      go_wp2
      go_ret2
      exact ⟨_, _, rfl, by have := HZ.out; have := hQ.out; omega, by have := HZ.out; have := hQ.out; omega, by have := hQ.out; omega, HBX.out, HMP.out, chain HW hS⟩
    refine AllReadyH.cons (o := _) rfl (fun K hK => ?_) AllReadyH.nil
    go_simp
    refine (f_within op 0 1000000 _ ho0 ho1).mono ?_
    rintro e2 w19_ ⟨rfl, rfl⟩
    go_wp2_with fail
    refine hK.out _ _ hS (fun hS => ?_)
    clear hK K
    try simp only [Act.put, xg0, xg1, xg2, xs0, xs1, xs2]
    refine tk1 22 (.bool true) rfl (fun w' hSw => by obtain ⟨z0, z1, z2, z3, z4, z5⟩ := box6 hSw.2; go_simp) hS ?_
    try simp only [Act.put, xg0, xg1, xg2, xs0, xs1, xs2]
    refine wpAnyH_ready (rs := [4]) (by kernel_rfl) (by simp) ?_
    refine AllReadyH.cons (o := _) rfl (fun K hK => ?_) AllReadyH.nil
    obtain ⟨w20_, hw2⟩ : ∃ w2, w12_.alloc (.cells #[.int .i64 P, .slice A bins.length c, .int .i64 b0, .int .i64 b1, .int .i64 a0, .int .i64 a1, .slice At lt.length ct, .map (some wa.drew.heap.size)] 107 (0, 0)) = w2 := ⟨_, rfl⟩
    have HBX := Lib.hid (show Blk w20_ w12_.heap.size #[.int .i64 P, .slice A bins.length c, .int .i64 b0, .int .i64 b1, .int .i64 a0, .int .i64 a1, .slice At lt.length ct, .map (some wa.drew.heap.size)] 107 by rw [← hw2]; exact Blk.new _ _ _)
    have hQ := Lib.hid (show wa.drew.heap.size ≤ wa.drew.heap.size ∧ wa.drew.heap.size < w12_.heap.size from ⟨hQ0.out, HMP.out.2⟩)
    have HMP := Lib.hid (show EMap w20_ wa.drew.heap.size by rw [← hw2]; exact HMP.out.alloc _)
    have hS2 : Below wa.drew.heap.size wa.drew w20_ ∧ Blk w20_ w.heap.size #[.int .i64 P, .slice A bins.length c, .int .i64 b0, .int .i64 b1, .int .i64 a0, .int .i64 a1] 26 := by rw [← hw2]; exact ⟨hS.1.alloc hS.1.size _, hS.2.alloc _⟩
    have HW2 := Lib.hid hw2
    clear hw2
    go_simp
    show K _ (w12_.alloc (.cells #[.int .i64 P, .slice A bins.length c, .int .i64 b0, .int .i64 b1, .int .i64 a0, .int .i64 a1, .slice At lt.length ct, .map (some wa.drew.heap.size)] 107 (0, 0)))
    rw [HW2.out]
    refine hK.out _ _ hS2 (fun hS => ?_)
    clear hK K HW2 hS2
    try simp only [Act.put, xg0, xg1, xg2, xs0, xs1, xs2]
    refine tk1 23 (.pointer (some ⟨w12_.heap.size, 0, none⟩)) rfl (fun w' hSw => by obtain ⟨z0, z1, z2, z3, z4, z5⟩ := box6 hSw.2; go_simp) hS ?_
    try simp only [Act.put, xg0, xg1, xg2, xs0, xs1, xs2]
    refine tk1 24 (.bool true) rfl (fun w' hSw => by obtain ⟨z0, z1, z2, z3, z4, z5⟩ := box6 hSw.2; go_simp) hS ?_
    try simp only [Act.put, xg0, xg1, xg2, xs0, xs1, xs2]
    refine wpAnyH_done (by kernel_rfl) ?_ _
    go_wp2
    go_ret2
    exact ⟨_, _, rfl, by have := HZ.out; have := hQ.out; omega, by have := HZ.out; have := hQ.out; omega, by have := hQ.out; omega, HBX.out, HMP.out, chain HW hS⟩
  refine AllReadyH.cons (o := _) rfl (fun K hK => ?_) AllReadyH.nil
  go_simp
  refine (f_skied A c bins P b0 b1 a0 a1 _ (Kd.C_below HC.out (chain HW hS)) hc HG.out).mono ?_
  rintro e2 w21_ ⟨rfl, hb2⟩
  go_wp2_with fail
  refine hK.out _ _ ⟨hS.1.trans (hb2.mono hS.1.size), hS.2.below hb2 hS.2.lt⟩ (fun hS => ?_)
  clear hK K
  try simp only [Act.put, xg0, xg1, xg2, xs0, xs1, xs2]
  clear hb2
  refine tk1 7 (.bool true) rfl (fun w' hSw => by obtain ⟨z0, z1, z2, z3, z4, z5⟩ := box6 hSw.2; go_simp) hS ?_
  try simp only [Act.put, xg0, xg1, xg2, xs0, xs1, xs2]
  refine tk1 8 (.slice At lt.length ct) rfl (fun w' hSw => by obtain ⟨z0, z1, z2, z3, z4, z5⟩ := box6 hSw.2; go_simp) hS ?_
  try simp only [Act.put, xg0, xg1, xg2, xs0, xs1, xs2]
  refine wpAnyH_ready (rs := [2, 9]) (by kernel_rfl) (by simp) ?_
  refine AllReadyH.cons (o := _) rfl (fun K hK => ?_) ?_
  · skip
    obtain ⟨w22_, hw2⟩ : ∃ w2, w21_.alloc (.map #[] 0) = w2 := ⟨_, rfl⟩
    have HMP := Lib.hid (show EMap w22_ w21_.heap.size by rw [← hw2]; exact EMap.new _)
    have hS2 : Below wa.drew.heap.size wa.drew w22_ ∧ Blk w22_ w.heap.size #[.int .i64 P, .slice A bins.length c, .int .i64 b0, .int .i64 b1, .int .i64 a0, .int .i64 a1] 26 := by rw [← hw2]; exact ⟨hS.1.alloc hS.1.size _, hS.2.alloc _⟩
    have hQ0 := Lib.hid hS.1.size
    have HW2 := Lib.hid hw2
    clear hw2
    go_simp
    show K _ (w21_.alloc (.map #[] 0))
    rw [HW2.out]
    refine hK.out _ _ hS2 (fun hS => ?_)
    clear hK K HW2 hS2
    try simp only [Act.put, xg0, xg1, xg2, xs0, xs1, xs2]
    refine tk1 3 (.agg #[.int .i64 P, .slice A bins.length c, .int .i64 b0, .int .i64 b1, .int .i64 a0, .int .i64 a1, .slice At lt.length ct, .map (some w21_.heap.size)]) rfl (fun w' hSw => by obtain ⟨z0, z1, z2, z3, z4, z5⟩ := box6 hSw.2; go_simp) hS ?_
    try simp only [Act.put, xg0, xg1, xg2, xs0, xs1, xs2]
    refine wpAnyH_ready (rs := [4, 9]) (by kernel_rfl) (by simp) ?_
    refine AllReadyH.cons (o := _) rfl (fun K hK => ?_) ?_
    · skip
      obtain ⟨w23_, hw2⟩ : ∃ w2, w22_.alloc (.cells #[.int .i64 P, .slice A bins.length c, .int .i64 b0, .int .i64 b1, .int .i64 a0, .int .i64 a1, .slice At lt.length ct, .map (some w21_.heap.size)] 107 (0, 0)) = w2 := ⟨_, rfl⟩
      have HBX := Lib.hid (show Blk w23_ w22_.heap.size #[.int .i64 P, .slice A bins.length c, .int .i64 b0, .int .i64 b1, .int .i64 a0, .int .i64 a1, .slice At lt.length ct, .map (some w21_.heap.size)] 107 by rw [← hw2]; exact Blk.new _ _ _)
      have hQ := Lib.hid (show wa.drew.heap.size ≤ w21_.heap.size ∧ w21_.heap.size < w22_.heap.size from ⟨hQ0.out, HMP.out.2⟩)
      have HMP := Lib.hid (show EMap w23_ w21_.heap.size by rw [← hw2]; exact HMP.out.alloc _)
      have hS2 : Below wa.drew.heap.size wa.drew w23_ ∧ Blk w23_ w.heap.size #[.int .i64 P, .slice A bins.length c, .int .i64 b0, .int .i64 b1, .int .i64 a0, .int .i64 a1] 26 := by rw [← hw2]; exact ⟨hS.1.alloc hS.1.size _, hS.2.alloc _⟩
      have HW2 := Lib.hid hw2
      clear hw2
      go_simp
      show K _ (w22_.alloc (.cells #[.int .i64 P, .slice A bins.length c, .int .i64 b0, .int .i64 b1, .int .i64 a0, .int .i64 a1, .slice At lt.length ct, .map (some w21_.heap.size)] 107 (0, 0)))
      rw [HW2.out]
      refine hK.out _ _ hS2 (fun hS => ?_)
      clear hK K HW2 hS2
      try simp only [Act.put, xg0, xg1, xg2, xs0, xs1, xs2]
      refine wpAnyH_ready (rs := [9]) (by kernel_rfl) (by simp) ?_
      refine AllReadyH.cons (o := _) rfl (fun K hK => ?_) AllReadyH.nil
      go_simp
      refine (f_ranged At ct lt _ (Kd.C_below HCt.out (chain HW hS)) hct HGt.out).mono ?_
      rintro e2 w24_ ⟨rfl, hb2⟩
      go_wp2_with fail
      refine hK.out _ _ ⟨hS.1.trans (hb2.mono hS.1.size), hS.2.below hb2 hS.2.lt⟩ (fun hS => ?_)
      clear hK K
      try simp only [Act.put, xg0, xg1, xg2, xs0, xs1, xs2]
      have HMP := Lib.hid (HMP.out.below hb2)
      have HBX := Lib.hid (HBX.out.below hb2 HBX.out.lt)
      clear hb2
      refine tk1 10 (.bool true) rfl (fun w' hSw => by obtain ⟨z0, z1, z2, z3, z4, z5⟩ := box6 hSw.2; go_simp) hS ?_
      try simp only [Act.put, xg0, xg1, xg2, xs0, xs1, xs2]
      refine tk1 11 (.bool true) rfl (fun w' hSw => by obtain ⟨z0, z1, z2, z3, z4, z5⟩ := box6 hSw.2; go_simp) hS ?_
      try simp only [Act.put, xg0, xg1, xg2, xs0, xs1, xs2]
      refine tk1 12 (.int .i64 k) rfl (fun w' hSw => by obtain ⟨z0, z1, z2, z3, z4, z5⟩ := box6 hSw.2; go_simp) hS ?_
      try simp only [Act.put, xg0, xg1, xg2, xs0, xs1, xs2]
      refine tk1 13 (.pointer (some ⟨w.heap.size, 1, none⟩)) rfl (fun w' hSw => by obtain ⟨z0, z1, z2, z3, z4, z5⟩ := box6 hSw.2; go_simp) hS ?_
      try simp only [Act.put, xg0, xg1, xg2, xs0, xs1, xs2]
      refine tk1 14 (.slice A bins.length c) rfl (fun w' hSw => by obtain ⟨z0, z1, z2, z3, z4, z5⟩ := box6 hSw.2; go_simp) hS ?_
      try simp only [Act.put, xg0, xg1, xg2, xs0, xs1, xs2]
      refine tk1 15 (.int .i64 (bins.length : Int)) rfl (fun w' hSw => by obtain ⟨z0, z1, z2, z3, z4, z5⟩ := box6 hSw.2; go_simp) hS ?_
      try simp only [Act.put, xg0, xg1, xg2, xs0, xs1, xs2]
      refine tk1 16 (.int .i64 ((bins.length : Int) - 1)) rfl (fun w' hSw => by obtain ⟨z0, z1, z2, z3, z4, z5⟩ := box6 hSw.2; go_simp) hS ?_
      try simp only [Act.put, xg0, xg1, xg2, xs0, xs1, xs2]
      refine wpAnyH_ready (rs := [17]) (by kernel_rfl) (by simp) ?_
      refine AllReadyH.cons (o := _) rfl (fun K hK => ?_) AllReadyH.nil
      go_simp
      refine (f_within k 0 ((bins.length : Int) - 1) _ hk0 (by omega)).mono ?_
      rintro e2 w25_ ⟨rfl, rfl⟩
      go_wp2_with fail
      refine hK.out _ _ hS (fun hS => ?_)
      clear hK K
      try simp only [Act.put, xg0, xg1, xg2, xs0, xs1, xs2]
      refine tk1 18 (.bool true) rfl (fun w' hSw => by obtain ⟨z0, z1, z2, z3, z4, z5⟩ := box6 hSw.2; go_simp) hS ?_
      try simp only [Act.put, xg0, xg1, xg2, xs0, xs1, xs2]
      refine tk1 19 (.bool true) rfl (fun w' hSw => by obtain ⟨z0, z1, z2, z3, z4, z5⟩ := box6 hSw.2; go_simp) hS ?_
      try simp only [Act.put, xg0, xg1, xg2, xs0, xs1, xs2]
      refine tk1 20 (.int .i64 op) rfl (fun w' hSw => by obtain ⟨z0, z1, z2, z3, z4, z5⟩ := box6 hSw.2; go_simp) hS ?_
      try simp only [Act.put, xg0, xg1, xg2, xs0, xs1, xs2]
      refine wpAnyH_ready (rs := [21]) (by kernel_rfl) (by simp) ?_
      refine AllReadyH.cons (o := _) rfl (fun K hK => ?_) AllReadyH.nil
      go_simp
      refine (f_within op 0 1000000 _ ho0 ho1).mono ?_
      rintro e2 w26_ ⟨rfl, rfl⟩
      go_wp2_with fail
      refine hK.out _ _ hS (fun hS => ?_)
      clear hK K
      try simp only [Act.put, xg0, xg1, xg2, xs0, xs1, xs2]
      refine tk1 22 (.bool true) rfl (fun w' hSw => by obtain ⟨z0, z1, z2, z3, z4, z5⟩ := box6 hSw.2; go_simp) hS ?_
      try simp only [Act.put, xg0, xg1, xg2, xs0, xs1, xs2]
      refine tk1 23 (.pointer (some ⟨w22_.heap.size, 0, none⟩)) rfl (fun w' hSw => by obtain ⟨z0, z1, z2, z3, z4, z5⟩ := box6 hSw.2; go_simp) hS ?_
      try simp only [Act.put, xg0, xg1, xg2, xs0, xs1, xs2]
      refine tk1 24 (.bool true) rfl (fun w' hSw => by obtain ⟨z0, z1, z2, z3, z4, z5⟩ := box6 hSw.2; go_simp) hS ?_
      try simp only [Act.put, xg0, xg1, xg2, xs0, xs1, xs2]
      refine wpAnyH_done (by kernel_rfl) ?_ _
      go_wp2
      go_ret2
      exact ⟨_, _, rfl, by have := HZ.out; have := hQ.out; omega, by have := HZ.out; have := hQ.out; omega, by have := hQ.out; omega, HBX.out, HMP.out, chain HW hS⟩
    refine AllReadyH.cons (o := _) rfl (fun K hK => ?_) AllReadyH.nil
    go_simp
    refine (f_ranged At ct lt _ (Kd.C_below HCt.out (chain HW hS)) hct HGt.out).mono ?_
    rintro e2 w27_ ⟨rfl, hb2⟩
    go_wp2_with fail
    refine hK.out _ _ ⟨hS.1.trans (hb2.mono hS.1.size), hS.2.below hb2 hS.2.lt⟩ (fun hS => ?_)
    clear hK K
    try simp only [Act.put, xg0, xg1, xg2, xs0, xs1, xs2]
    have HMP := Lib.hid (HMP.out.below hb2)
    clear hb2
    refine tk1 10 (.bool true) rfl (fun w' hSw => by obtain ⟨z0, z1, z2, z3, z4, z5⟩ := box6 hSw.2; go_simp) hS ?_
    try simp only [Act.put, xg0, xg1, xg2, xs0, xs1, xs2]
    refine tk1 11 (.bool true) rfl (fun w' hSw => by obtain ⟨z0, z1, z2, z3, z4, z5⟩ := box6 hSw.2; go_simp) hS ?_
    try simp only [Act.put, xg0, xg1, xg2, xs0, xs1, xs2]
    refine tk1 12 (.int .i64 k) rfl (fun w' hSw => by obtain ⟨z0, z1, z2, z3, z4, z5⟩ := box6 hSw.2; go_simp) hS ?_
    try simp only [Act.put, xg0, xg1, xg2, xs0, xs1, xs2]
    refine tk1 13 (.pointer (some ⟨w.heap.size, 1, none⟩)) rfl (fun w' hSw => by obtain ⟨z0, z1, z2, z3, z4, z5⟩ := box6 hSw.2; go_simp) hS ?_
    try simp only [Act.put, xg0, xg1, xg2, xs0, xs1, xs2]
    refine tk1 14 (.slice A bins.length c) rfl (fun w' hSw => by obtain ⟨z0, z1, z2, z3, z4, z5⟩ := box6 hSw.2; go_simp) hS ?_
    try simp only [Act.put, xg0, xg1, xg2, xs0, xs1, xs2]
    refine tk1 15 (.int .i64 (bins.length : Int)) rfl (fun w' hSw => by obtain ⟨z0, z1, z2, z3, z4, z5⟩ := box6 hSw.2; go_simp) hS ?_
    try simp only [Act.put, xg0, xg1, xg2, xs0, xs1, xs2]
    refine tk1 16 (.int .i64 ((bins.length : Int) - 1)) rfl (fun w' hSw => by obtain ⟨z0, z1, z2, z3, z4, z5⟩ := box6 hSw.2; go_simp) hS ?_
    try simp only [Act.put, xg0, xg1, xg2, xs0, xs1, xs2]
    refine wpAnyH_ready (rs := [4, 17]) (by kernel_rfl) (by simp) ?_
    refine AllReadyH.cons (o := _) rfl (fun K hK => ?_) ?_
    · skip
      obtain ⟨w28_, hw2⟩ : ∃ w2, w27_.alloc (.cells #[.int .i64 P, .slice A bins.length c, .int .i64 b0, .int .i64 b1, .int .i64 a0, .int .i64 a1, .slice At lt.length ct, .map (some w21_.heap.size)] 107 (0, 0)) = w2 := ⟨_, rfl⟩
      have HBX := Lib.hid (show Blk w28_ w27_.heap.size #[.int .i64 P, .slice A bins.length c, .int .i64 b0, .int .i64 b1, .int .i64 a0, .int .i64 a1, .slice At lt.length ct, .map (some w21_.heap.size)] 107 by rw [← hw2]; exact Blk.new _ _ _)
      have hQ := Lib.hid (show wa.drew.heap.size ≤ w21_.heap.size ∧ w21_.heap.size < w27_.heap.size from ⟨hQ0.out, HMP.out.2⟩)
      have HMP := Lib.hid (show EMap w28_ w21_.heap.size by rw [← hw2]; exact HMP.out.alloc _)
      have hS2 : Below wa.drew.heap.size wa.drew w28_ ∧ Blk w28_ w.heap.size #[.int .i64 P, .slice A bins.length c, .int .i64 b0, .int .i64 b1, .int .i64 a0, .int .i64 a1] 26 := by rw [← hw2]; exact ⟨hS.1.alloc hS.1.size _, hS.2.alloc _⟩
      have HW2 := Lib.hid hw2
      clear hw2
      go_simp
      show K _ (w27_.alloc (.cells #[.int .i64 P, .slice A bins.length c, .int .i64 b0, .int .i64 b1, .int .i64 a0, .int .i64 a1, .slice At lt.length ct, .map (some w21_.heap.size)] 107 (0, 0)))
      rw [HW2.out]
      refine hK.out _ _ hS2 (fun hS => ?_)
      clear hK K HW2 hS2
      try simp only [Act.put, xg0, xg1, xg2, xs0, xs1, xs2]
      refine wpAnyH_ready (rs := [17]) (by kernel_rfl) (by simp) ?_
      refine AllReadyH.cons (o := _) rfl (fun K hK => ?_) AllReadyH.nil
      go_simp
      refine (f_within k 0 ((bins.length : Int) - 1) _ hk0 (by omega)).mono ?_
      rintro e2 w29_ ⟨rfl, rfl⟩
      go_wp2_with fail
      refine hK.out _ _ hS (fun hS => ?_)
      clear hK K
      try simp only [Act.put, xg0, xg1, xg2, xs0, xs1, xs2]
      refine tk1 18 (.bool true) rfl (fun w' hSw => by obtain ⟨z0, z1, z2, z3, z4, z5⟩ := box6 hSw.2; go_simp) hS ?_
      try simp only [Act.put, xg0, xg1, xg2, xs0, xs1, xs2]
      refine tk1 19 (.bool true) rfl (fun w' hSw => by obtain ⟨z0, z1, z2, z3, z4, z5⟩ := box6 hSw.2; go_simp) hS ?_
      try simp only [Act.put, xg0, xg1, xg2, xs0, xs1, xs2]
      refine tk1 20 (.int .i64 op) rfl (fun w' hSw => by obtain ⟨z0, z1, z2, z3, z4, z5⟩ := box6 hSw.2; go_simp) hS ?_
      try simp only [Act.put, xg0, xg1, xg2, xs0, xs1, xs2]
      refine wpAnyH_ready (rs := [21]) (by kernel_rfl) (by simp) ?_
      refine AllReadyH.cons (o := _) rfl (fun K hK => ?_) AllReadyH.nil
      go_simp
      refine (f_within op 0 1000000 _ ho0 ho1).mono ?_
      rintro e2 w30_ ⟨rfl, rfl⟩
      go_wp2_with fail
      refine hK.out _ _ hS (fun hS => ?_)
      clear hK K
      try simp only [Act.put, xg0, xg1, xg2, xs0, xs1, xs2]
      refine tk1 22 (.bool true) rfl (fun w' hSw => by obtain ⟨z0, z1, z2, z3, z4, z5⟩ := box6 hSw.2; go_simp) hS ?_
      try simp only [Act.put, xg0, xg1, xg2, xs0, xs1, xs2]
      refine tk1 23 (.pointer (some ⟨w27_.heap.size, 0, none⟩)) rfl (fun w' hSw => by obtain ⟨z0, z1, z2, z3, z4, z5⟩ := box6 hSw.2; go_simp) hS ?_
      try simp only [Act.put, xg0, xg1, xg2, xs0, xs1, xs2]
      refine tk1 24 (.bool true) rfl (fun w' hSw => by obtain ⟨z0, z1, z2, z3, z4, z5⟩ := box6 hSw.2; go_simp) hS ?_
      try simp only [Act.put, xg0, xg1, xg2, xs0, xs1, xs2]
      refine wpAnyH_done (by kernel_rfl) ?_ _
      go_wp2
      go_ret2
      exact ⟨_, _, rfl, by have := HZ.out; have := hQ.out; omega, by have := HZ.out; have := hQ.out; omega, by have := hQ.out; omega, HBX.out, HMP.out, chain HW hS⟩
    refine AllReadyH.cons (o := _) rfl (fun K hK => ?_) AllReadyH.nil
    go_simp
    refine (f_within k 0 ((bins.length : Int) - 1) _ hk0 (by omega)).mono ?_
    rintro e2 w31_ ⟨rfl, rfl⟩
    go_wp2_with fail
    refine hK.out _ _ hS (fun hS => ?_)
    clear hK K
    try simp only [Act.put, xg0, xg1, xg2, xs0, xs1, xs2]
    refine tk1 18 (.bool true) rfl (fun w' hSw => by obtain ⟨z0, z1, z2, z3, z4, z5⟩ := box6 hSw.2; go_simp) hS ?_
    try simp only [Act.put, xg0, xg1, xg2, xs0, xs1, xs2]
    refine tk1 19 (.bool true) rfl (fun w' hSw => by obtain ⟨z0, z1, z2, z3, z4, z5⟩ := box6 hSw.2; go_simp) hS ?_
    try simp only [Act.put, xg0, xg1, xg2, xs0, xs1, xs2]
    refine tk1 20 (.int .i64 op) rfl (fun w' hSw => by obtain ⟨z0, z1, z2, z3, z4, z5⟩ := box6 hSw.2; go_simp) hS ?_
    try simp only [Act.put, xg0, xg1, xg2, xs0, xs1, xs2]
    refine wpAnyH_ready (rs := [4, 21]) (by kernel_rfl) (by simp) ?_
    refine AllReadyH.cons (o := _) rfl (fun K hK => ?_) ?_
    · skip
      obtain ⟨w32_, hw2⟩ : ∃ w2, w27_.alloc (.cells #[.int .i64 P, .slice A bins.length c, .int .i64 b0, .int .i64 b1, .int .i64 a0, .int .i64 a1, .slice At lt.length ct, .map (some w21_.heap.size)] 107 (0, 0)) = w2 := ⟨_, rfl⟩
      have HBX := Lib.hid (show Blk w32_ w27_.heap.size #[.int .i64 P, .slice A bins.length c, .int .i64 b0, .int .i64 b1, .int .i64 a0, .int .i64 a1, .slice At lt.length ct, .map (some w21_.heap.size)] 107 by rw [← hw2]; exact Blk.new _ _ _)
      have hQ := Lib.hid (show wa.drew.heap.size ≤ w21_.heap.size ∧ w21_.heap.size < w27_.heap.size from ⟨hQ0.out, HMP.out.2⟩)
      have HMP := Lib.hid (show EMap w32_ w21_.heap.size by rw [← hw2]; exact HMP.out.alloc _)
      have hS2 : Below wa.drew.heap.size wa.drew w32_ ∧ Blk w32_ w.heap.size #[.int .i64 P, .slice A bins.length c, .int .i64 b0, .int .i64 b1, .int .i64 a0, .int .i64 a1] 26 := by rw [← hw2]; exact ⟨hS.1.alloc hS.1.size _, hS.2.alloc _⟩
      have HW2 := Lib.hid hw2
      clear hw2
      go_simp
      show K _ (w27_.alloc (.cells #[.int .i64 P, .slice A bins.length c, .int .i64 b0, .int .i64 b1, .int .i64 a0, .int .i64 a1, .slice At lt.length ct, .map (some w21_.heap.size)] 107 (0, 0)))
      rw [HW2.out]
      refine hK.out _ _ hS2 (fun hS => ?_)
      clear hK K HW2 hS2
      try simp only [Act.put, xg0, xg1, xg2, xs0, xs1, xs2]
      refine wpAnyH_ready (rs := [21]) (by kernel_rfl) (by simp) ?_
      refine AllReadyH.cons (o := _) rfl (fun K hK => ?_) AllReadyH.nil
      go_simp
      refine (f_within op 0 1000000 _ ho0 ho1).mono ?_
      rintro e2 w33_ ⟨rfl, rfl⟩
      go_wp2_with fail
      refine hK.out _ _ hS (fun hS => ?_)
      clear hK K
      try simp only [Act.put, xg0, xg1, xg2, xs0, xs1, xs2]
      refine tk1 22 (.bool true) rfl (fun w' hSw => by obtain ⟨z0, z1, z2, z3, z4, z5⟩ := box6 hSw.2; go_simp) hS ?_
      try simp only [Act.put, xg0, xg1, xg2, xs0, xs1, xs2]
      refine tk1 23 (.pointer (some ⟨w27_.heap.size, 0, none⟩)) rfl (fun w' hSw => by obtain ⟨z0, z1, z2, z3, z4, z5⟩ := box6 hSw.2; go_simp) hS ?_
      try simp only [Act.put, xg0, xg1, xg2, xs0, xs1, xs2]
      refine tk1 24 (.bool true) rfl (fun w' hSw => by obtain ⟨z0, z1, z2, z3, z4, z5⟩ := box6 hSw.2; go_simp) hS ?_
      try simp only [Act.put, xg0, xg1, xg2, xs0, xs1, xs2]
      refine wpAnyH_done (by kernel_rfl) ?_ _
      go_wp2
      go_ret2
      exact ⟨_, _, rfl, by have := HZ.out; have := hQ.out; omega, by have := HZ.out; have := hQ.out; omega, by have := hQ.out; omega, HBX.out, HMP.out, chain HW hS⟩
    refine AllReadyH.cons (o := _) rfl (fun K hK => ?_) AllReadyH.nil
    go_simp
    refine (f_within op 0 1000000 _ ho0 ho1).mono ?_
    rintro e2 w34_ ⟨rfl, rfl⟩
    go_wp2_with fail
    refine hK.out _ _ hS (fun hS => ?_)
    clear hK K
    try simp only [Act.put, xg0, xg1, xg2, xs0, xs1, xs2]
    refine tk1 22 (.bool true) rfl (fun w' hSw => by obtain ⟨z0, z1, z2, z3, z4, z5⟩ := box6 hSw.2; go_simp) hS ?_
    try simp only [Act.put, xg0, xg1, xg2, xs0, xs1, xs2]
    refine wpAnyH_ready (rs := [4]) (by kernel_rfl) (by simp) ?_
    refine AllReadyH.cons (o := _) rfl (fun K hK => ?_) AllReadyH.nil
    obtain ⟨w35_, hw2⟩ : ∃ w2, w27_.alloc (.cells #[.int .i64 P, .slice A bins.length c, .int .i64 b0, .int .i64 b1, .int .i64 a0, .int .i64 a1, .slice At lt.length ct, .map (some w21_.heap.size)] 107 (0, 0)) = w2 := ⟨_, rfl⟩
    have HBX := Lib.hid (show Blk w35_ w27_.heap.size #[.int .i64 P, .slice A bins.length c, .int .i64 b0, .int .i64 b1, .int .i64 a0, .int .i64 a1, .slice At lt.length ct, .map (some w21_.heap.size)] 107 by rw [← hw2]; exact Blk.new _ _ _)
    have hQ := Lib.hid (show wa.drew.heap.size ≤ w21_.heap.size ∧ w21_.heap.size < w27_.heap.size from ⟨hQ0.out, HMP.out.2⟩)
    have HMP := Lib.hid (show EMap w35_ w21_.heap.size by rw [← hw2]; exact HMP.out.alloc _)
    have hS2 : Below wa.drew.heap.size wa.drew w35_ ∧ Blk w35_ w.heap.size #[.int .i64 P, .slice A bins.length c, .int .i64 b0, .int .i64 b1, .int .i64 a0, .int .i64 a1] 26 := by rw [← hw2]; exact ⟨hS.1.alloc hS.1.size _, hS.2.alloc _⟩
    have HW2 := Lib.hid hw2
    clear hw2
    go_simp
    show K _ (w27_.alloc (.cells #[.int .i64 P, .slice A bins.length c, .int .i64 b0, .int .i64 b1, .int .i64 a0, .int .i64 a1, .slice At lt.length ct, .map (some w21_.heap.size)] 107 (0, 0)))
    rw [HW2.out]
    refine hK.out _ _ hS2 (fun hS => ?_)
    clear hK K HW2 hS2
    try simp only [Act.put, xg0, xg1, xg2, xs0, xs1, xs2]
    refine tk1 23 (.pointer (some ⟨w27_.heap.size, 0, none⟩)) rfl (fun w' hSw => by obtain ⟨z0, z1, z2, z3, z4, z5⟩ := box6 hSw.2; go_simp) hS ?_
    try simp only [Act.put, xg0, xg1, xg2, xs0, xs1, xs2]
    refine tk1 24 (.bool true) rfl (fun w' hSw => by obtain ⟨z0, z1, z2, z3, z4, z5⟩ := box6 hSw.2; go_simp) hS ?_
    try simp only [Act.put, xg0, xg1, xg2, xs0, xs1, xs2]
    refine wpAnyH_done (by kernel_rfl) ?_ _
    go_wp2
    go_ret2
    exact ⟨_, _, rfl, by have := HZ.out; have := hQ.out; omega, by have := HZ.out; have := hQ.out; omega, by have := hQ.out; omega, HBX.out, HMP.out, chain HW hS⟩
  refine AllReadyH.cons (o := _) rfl (fun K hK => ?_) AllReadyH.nil
  go_simp
  refine (f_ranged At ct lt _ (Kd.C_below HCt.out (chain HW hS)) hct HGt.out).mono ?_
  rintro e2 w36_ ⟨rfl, hb2⟩
  go_wp2_with fail
  refine hK.out _ _ ⟨hS.1.trans (hb2.mono hS.1.size), hS.2.below hb2 hS.2.lt⟩ (fun hS => ?_)
  clear hK K
  try simp only [Act.put, xg0, xg1, xg2, xs0, xs1, xs2]
  clear hb2
  refine tk1 10 (.bool true) rfl (fun w' hSw => by obtain ⟨z0, z1, z2, z3, z4, z5⟩ := box6 hSw.2; go_simp) hS ?_
  try simp only [Act.put, xg0, xg1, xg2, xs0, xs1, xs2]
  refine tk1 11 (.bool true) rfl (fun w' hSw => by obtain ⟨z0, z1, z2, z3, z4, z5⟩ := box6 hSw.2; go_simp) hS ?_
  try simp only [Act.put, xg0, xg1, xg2, xs0, xs1, xs2]
  refine tk1 12 (.int .i64 k) rfl (fun w' hSw => by obtain ⟨z0, z1, z2, z3, z4, z5⟩ := box6 hSw.2; go_simp) hS ?_
  try simp only [Act.put, xg0, xg1, xg2, xs0, xs1, xs2]
  refine tk1 13 (.pointer (some ⟨w.heap.size, 1, none⟩)) rfl (fun w' hSw => by obtain ⟨z0, z1, z2, z3, z4, z5⟩ := box6 hSw.2; go_simp) hS ?_
  try simp only [Act.put, xg0, xg1, xg2, xs0, xs1, xs2]
  refine tk1 14 (.slice A bins.length c) rfl (fun w' hSw => by obtain ⟨z0, z1, z2, z3, z4, z5⟩ := box6 hSw.2; go_simp) hS ?_
  try simp only [Act.put, xg0, xg1, xg2, xs0, xs1, xs2]
  refine tk1 15 (.int .i64 (bins.length : Int)) rfl (fun w' hSw => by obtain ⟨z0, z1, z2, z3, z4, z5⟩ := box6 hSw.2; go_simp) hS ?_
  try simp only [Act.put, xg0, xg1, xg2, xs0, xs1, xs2]
  refine tk1 16 (.int .i64 ((bins.length : Int) - 1)) rfl (fun w' hSw => by obtain ⟨z0, z1, z2, z3, z4, z5⟩ := box6 hSw.2; go_simp) hS ?_
  try simp only [Act.put, xg0, xg1, xg2, xs0, xs1, xs2]
  refine wpAnyH_ready (rs := [2, 17]) (by kernel_rfl) (by simp) ?_
  refine AllReadyH.cons (o := _) rfl (fun K hK => ?_) ?_
  · skip
    obtain ⟨w37_, hw2⟩ : ∃ w2, w36_.alloc (.map #[] 0) = w2 := ⟨_, rfl⟩
    have HMP := Lib.hid (show EMap w37_ w36_.heap.size by rw [← hw2]; exact EMap.new _)
    have hS2 : Below wa.drew.heap.size wa.drew w37_ ∧ Blk w37_ w.heap.size #[.int .i64 P, .slice A bins.length c, .int .i64 b0, .int .i64 b1, .int .i64 a0, .int .i64 a1] 26 := by rw [← hw2]; exact ⟨hS.1.alloc hS.1.size _, hS.2.alloc _⟩
    have hQ0 := Lib.hid hS.1.size
    have HW2 := Lib.hid hw2
    clear hw2
    go_simp
    show K _ (w36_.alloc (.map #[] 0))
    rw [HW2.out]
    refine hK.out _ _ hS2 (fun hS => ?_)
    clear hK K HW2 hS2
    try simp only [Act.put, xg0, xg1, xg2, xs0, xs1, xs2]
    refine tk1 3 (.agg #[.int .i64 P, .slice A bins.length c, .int .i64 b0, .int .i64 b1, .int .i64 a0, .int .i64 a1, .slice At lt.length ct, .map (some w36_.heap.size)]) rfl (fun w' hSw => by obtain ⟨z0, z1, z2, z3, z4, z5⟩ := box6 hSw.2; go_simp) hS ?_
    try simp only [Act.put, xg0, xg1, xg2, xs0, xs1, xs2]
    refine wpAnyH_ready (rs := [4, 17]) (by kernel_rfl) (by simp) ?_
    refine AllReadyH.cons (o := _) rfl (fun K hK => ?_) ?_
    · skip
      obtain ⟨w38_, hw2⟩ : ∃ w2, w37_.alloc (.cells #[.int .i64 P, .slice A bins.length c, .int .i64 b0, .int .i64 b1, .int .i64 a0, .int .i64 a1, .slice At lt.length ct, .map (some w36_.heap.size)] 107 (0, 0)) = w2 := ⟨_, rfl⟩
      have HBX := Lib.hid (show Blk w38_ w37_.heap.size #[.int .i64 P, .slice A bins.length c, .int .i64 b0, .int .i64 b1, .int .i64 a0, .int .i64 a1, .slice At lt.length ct, .map (some w36_.heap.size)] 107 by rw [← hw2]; exact Blk.new _ _ _)
      have hQ := Lib.hid (show wa.drew.heap.size ≤ w36_.heap.size ∧ w36_.heap.size < w37_.heap.size from ⟨hQ0.out, HMP.out.2⟩)
      have HMP := Lib.hid (show EMap w38_ w36_.heap.size by rw [← hw2]; exact HMP.out.alloc _)
      have hS2 : Below wa.drew.heap.size wa.drew w38_ ∧ Blk w38_ w.heap.size #[.int .i64 P, .slice A bins.length c, .int .i64 b0, .int .i64 b1, .int .i64 a0, .int .i64 a1] 26 := by rw [← hw2]; exact ⟨hS.1.alloc hS.1.size _, hS.2.alloc _⟩
      have HW2 := Lib.hid hw2
      clear hw2
      go_simp
      show K _ (w37_.alloc (.cells #[.int .i64 P, .slice A bins.length c, .int .i64 b0, .int .i64 b1, .int .i64 a0, .int .i64 a1, .slice At lt.length ct, .map (some w36_.heap.size)] 107 (0, 0)))
      rw [HW2.out]
      refine hK.out _ _ hS2 (fun hS => ?_)
      clear hK K HW2 hS2
      try simp only [Act.put, xg0, xg1, xg2, xs0, xs1, xs2]
      refine wpAnyH_ready (rs := [17]) (by kernel_rfl) (by simp) ?_
      refine AllReadyH.cons (o := _) rfl (fun K hK => ?_) AllReadyH.nil
      go_simp
      refine (f_within k 0 ((bins.length : Int) - 1) _ hk0 (by omega)).mono ?_
      rintro e2 w39_ ⟨rfl, rfl⟩
      go_wp2_with fail
      refine hK.out _ _ hS (fun hS => ?_)
      clear hK K
      try simp only [Act.put, xg0, xg1, xg2, xs0, xs1, xs2]
      refine tk1 18 (.bool true) rfl (fun w' hSw => by obtain ⟨z0, z1, z2, z3, z4, z5⟩ := box6 hSw.2; go_simp) hS ?_
      try simp only [Act.put, xg0, xg1, xg2, xs0, xs1, xs2]
      refine tk1 19 (.bool true) rfl (fun w' hSw => by obtain ⟨z0, z1, z2, z3, z4, z5⟩ := box6 hSw.2; go_simp) hS ?_
      try simp only [Act.put, xg0, xg1, xg2, xs0, xs1, xs2]
      refine tk1 20 (.int .i64 op) rfl (fun w' hSw => by obtain ⟨z0, z1, z2, z3, z4, z5⟩ := box6 hSw.2; go_simp) hS ?_
      try simp only [Act.put, xg0, xg1, xg2, xs0, xs1, xs2]
      refine wpAnyH_ready (rs := [21]) (by kernel_rfl) (by simp) ?_
      refine AllReadyH.cons (o := _) rfl (fun K hK => ?_) AllReadyH.nil
      go_simp
      refine (f_within op 0 1000000 _ ho0 ho1).mono ?_
      rintro e2 w40_ ⟨rfl, rfl⟩
      go_wp2_with fail
      refine hK.out _ _ hS (fun hS => ?_)
      clear hK K
      try simp only [Act.put, xg0, xg1, xg2, xs0, xs1, xs2]
      refine tk1 22 (.bool true) rfl (fun w' hSw => by obtain ⟨z0, z1, z2, z3, z4, z5⟩ := box6 hSw.2; go_simp) hS ?_
      try simp only [Act.put, xg0, xg1, xg2, xs0, xs1, xs2]
      refine tk1 23 (.pointer (some ⟨w37_.heap.size, 0, none⟩)) rfl (fun w' hSw => by obtain ⟨z0, z1, z2, z3, z4, z5⟩ := box6 hSw.2; go_simp) hS ?_
      try simp only [Act.put, xg0, xg1, xg2, xs0, xs1, xs2]
      refine tk1 24 (.bool true) rfl (fun w' hSw => by obtain ⟨z0, z1, z2, z3, z4, z5⟩ := box6 hSw.2; go_simp) hS ?_
      try simp only [Act.put, xg0, xg1, xg2, xs0, xs1, xs2]
      refine wpAnyH_done (by kernel_rfl) ?_ _
      go_wp2
      go_ret2
      exact ⟨_, _, rfl, by have := HZ.out; have := hQ.out; omega, by have := HZ.out; have := hQ.out; omega, by have := hQ.out; omega, HBX.out, HMP.out, chain HW hS⟩
    refine AllReadyH.cons (o := _) rfl (fun K hK => ?_) AllReadyH.nil
    go_simp
    refine (f_within k 0 ((bins.length : Int) - 1) _ hk0 (by omega)).mono ?_
    rintro e2 w41_ ⟨rfl, rfl⟩
    go_wp2_with fail
    refine hK.out _ _ hS (fun hS => ?_)
    clear hK K
    try simp only [Act.put, xg0, xg1, xg2, xs0, xs1, xs2]
    refine tk1 18 (.bool true) rfl (fun w' hSw => by obtain ⟨z0, z1, z2, z3, z4, z5⟩ := box6 hSw.2; go_simp) hS ?_
    try simp only [Act.put, xg0, xg1, xg2, xs0, xs1, xs2]
    refine tk1 19 (.bool true) rfl (fun w' hSw => by obtain ⟨z0, z1, z2, z3, z4, z5⟩ := box6 hSw.2; go_simp) hS ?_
    try simp only [Act.put, xg0, xg1, xg2, xs0, xs1, xs2]
    refine tk1 20 (.int .i64 op) rfl (fun w' hSw => by obtain ⟨z0, z1, z2, z3, z4, z5⟩ := box6 hSw.2; go_simp) hS ?_
    try simp only [Act.put, xg0, xg1, xg2, xs0, xs1, xs2]
    refine wpAnyH_ready (rs := [4, 21]) (by kernel_rfl) (by simp) ?_
    refine AllReadyH.cons (o := _) rfl (fun K hK => ?_) ?_
    · skip
      obtain ⟨w42_, hw2⟩ : ∃ w2, w37_.alloc (.cells #[.int .i64 P, .slice A bins.length c, .int .i64 b0, .int .i64 b1, .int .i64 a0, .int .i64 a1, .slice At lt.length ct, .map (some w36_.heap.size)] 107 (0, 0)) = w2 := ⟨_, rfl⟩
      have HBX := Lib.hid (show Blk w42_ w37_.heap.size #[.int .i64 P, .slice A bins.length c, .int .i64 b0, .int .i64 b1, .int .i64 a0, .int .i64 a1, .slice At lt.length ct, .map (some w36_.heap.size)] 107 by rw [← hw2]; exact Blk.new _ _ _)
      have hQ := Lib.hid (show wa.drew.heap.size ≤ w36_.heap.size ∧ w36_.heap.size < w37_.heap.size from ⟨hQ0.out, HMP.out.2⟩)
      have HMP := Lib.hid (show EMap w42_ w36_.heap.size by rw [← hw2]; exact HMP.out.alloc _)
      have hS2 : Below wa.drew.heap.size wa.drew w42_ ∧ Blk w42_ w.heap.size #[.int .i64 P, .slice A bins.length c, .int .i64 b0, .int .i64 b1, .int .i64 a0, .int .i64 a1] 26 := by rw [← hw2]; exact ⟨hS.1.alloc hS.1.size _, hS.2.alloc _⟩
      have HW2 := Lib.hid hw2
      clear hw2
      go_simp
      show K _ (w37_.alloc (.cells #[.int .i64 P, .slice A bins.length c, .int .i64 b0, .int .i64 b1, .int .i64 a0, .int .i64 a1, .slice At lt.length ct, .map (some w36_.heap.size)] 107 (0, 0)))
      rw [HW2.out]
      refine hK.out _ _ hS2 (fun hS => ?_)
      clear hK K HW2 hS2
      try simp only [Act.put, xg0, xg1, xg2, xs0, xs1, xs2]
      refine wpAnyH_ready (rs := [21]) (by kernel_rfl) (by simp) ?_
      refine AllReadyH.cons (o := _) rfl (fun K hK => ?_) AllReadyH.nil
      go_simp
      refine (f_within op 0 1000000 _ ho0 ho1).mono ?_
      rintro e2 w43_ ⟨rfl, rfl⟩
      go_wp2_with fail
      refine hK.out _ _ hS (fun hS => ?_)
      clear hK K
      try simp only [Act.put, xg0, xg1, xg2, xs0, xs1, xs2]
      refine tk1 22 (.bool true) rfl (fun w' hSw => by obtain ⟨z0, z1, z2, z3, z4, z5⟩ := box6 hSw.2; go_simp) hS ?_
      try simp only [Act.put, xg0, xg1, xg2, xs0, xs1, xs2]
      refine tk1 23 (.pointer (some ⟨w37_.heap.size, 0, none⟩)) rfl (fun w' hSw => by obtain ⟨z0, z1, z2, z3, z4, z5⟩ := box6 hSw.2; go_simp) hS ?_
      try simp only [Act.put, xg0, xg1, xg2, xs0, xs1, xs2]
      refine tk1 24 (.bool true) rfl (fun w' hSw => by obtain ⟨z0, z1, z2, z3, z4, z5⟩ := box6 hSw.2; go_simp) hS ?_
      try simp only [Act.put, xg0, xg1, xg2, xs0, xs1, xs2]
      refine wpAnyH_done (by kernel_rfl) ?_ _
      go_wp2
      go_ret2
      exact ⟨_, _, rfl, by have := HZ.out; have := hQ.out; omega, by have := HZ.out; have := hQ.out; omega, by have := hQ.out; omega, HBX.out, HMP.out, chain HW hS⟩
    refine AllReadyH.cons (o := _) rfl (fun K hK => ?_) AllReadyH.nil
    go_simp
    refine (f_within op 0 1000000 _ ho0 ho1).mono ?_
    rintro e2 w44_ ⟨rfl, rfl⟩
    go_wp2_with fail
    refine hK.out _ _ hS (fun hS => ?_)
    clear hK K
    try simp only [Act.put, xg0, xg1, xg2, xs0, xs1, xs2]
    refine tk1 22 (.bool true) rfl (fun w' hSw => by obtain ⟨z0, z1, z2, z3, z4, z5⟩ := box6 hSw.2; go_simp) hS ?_
    try simp only [Act.put, xg0, xg1, xg2, xs0, xs1, xs2]
    refine wpAnyH_ready (rs := [4]) (by kernel_rfl) (by simp) ?_
    refine AllReadyH.cons (o := _) rfl (fun K hK => ?_) AllReadyH.nil
    obtain ⟨w45_, hw2⟩ : ∃ w2, w37_.alloc (.cells #[.int .i64 P, .slice A bins.length c, .int .i64 b0, .int .i64 b1, .int .i64 a0, .int .i64 a1, .slice At lt.length ct, .map (some w36_.heap.size)] 107 (0, 0)) = w2 := ⟨_, rfl⟩
    have HBX := Lib.hid (show Blk w45_ w37_.heap.size #[.int .i64 P, .slice A bins.length c, .int .i64 b0, .int .i64 b1, .int .i64 a0, .int .i64 a1, .slice At lt.length ct, .map (some w36_.heap.size)] 107 by rw [← hw2]; exact Blk.new _ _ _)
    have hQ := Lib.hid (show wa.drew.heap.size ≤ w36_.heap.size ∧ w36_.heap.size < w37_.heap.size from ⟨hQ0.out, HMP.out.2⟩)
    have HMP := Lib.hid (show EMap w45_ w36_.heap.size by rw [← hw2]; exact HMP.out.alloc _)
    have hS2 : Below wa.drew.heap.size wa.drew w45_ ∧ Blk w45_ w.heap.size #[.int .i64 P, .slice A bins.length c, .int .i64 b0, .int .i64 b1, .int .i64 a0, .int .i64 a1] 26 := by rw [← hw2]; exact ⟨hS.1.alloc hS.1.size _, hS.2.alloc _⟩
    have HW2 := Lib.hid hw2
    clear hw2
    go_simp
    show K _ (w37_.alloc (.cells #[.int .i64 P, .slice A bins.length c, .int .i64 b0, .int .i64 b1, .int .i64 a0, .int .i64 a1, .slice At lt.length ct, .map (some w36_.heap.size)] 107 (0, 0)))
    rw [HW2.out]
    refine hK.out _ _ hS2 (fun hS => ?_)
    clear hK K HW2 hS2
    try simp only [Act.put, xg0, xg1, xg2, xs0, xs1, xs2]
    refine tk1 23 (.pointer (some ⟨w37_.heap.size, 0, none⟩)) rfl (fun w' hSw => by obtain ⟨z0, z1, z2, z3, z4, z5⟩ := box6 hSw.2; go_simp) hS ?_
    try simp only [Act.put, xg0, xg1, xg2, xs0, xs1, xs2]
    refine tk1 24 (.bool true) rfl (fun w' hSw => by obtain ⟨z0, z1, z2, z3, z4, z5⟩ := box6 hSw.2; go_simp) hS ?_
    try simp only [Act.put, xg0, xg1, xg2, xs0, xs1, xs2]
    refine wpAnyH_done (by kernel_rfl) ?_ _
    go_wp2
    go_ret2
    exact ⟨_, _, rfl, by have := HZ.out; have := hQ.out; omega, by have := HZ.out; have := hQ.out; omega, by have := hQ.out; omega, HBX.out, HMP.out, chain HW hS⟩
  refine AllReadyH.cons (o := _) rfl (fun K hK => ?_) AllReadyH.nil
  go_simp
  refine (f_within k 0 ((bins.length : Int) - 1) _ hk0 (by omega)).mono ?_
  rintro e2 w46_ ⟨rfl, rfl⟩
  go_wp2_with fail
  refine hK.out _ _ hS (fun hS => ?_)
  clear hK K
  try simp only [Act.put, xg0, xg1, xg2, xs0, xs1, xs2]
  refine tk1 18 (.bool true) rfl (fun w' hSw => by obtain ⟨z0, z1, z2, z3, z4, z5⟩ := box6 hSw.2; go_simp) hS ?_
  try simp only [Act.put, xg0, xg1, xg2, xs0, xs1, xs2]
  refine tk1 19 (.bool true) rfl (fun w' hSw => by obtain ⟨z0, z1, z2, z3, z4, z5⟩ := box6 hSw.2; go_simp) hS ?_
  try simp only [Act.put, xg0, xg1, xg2, xs0, xs1, xs2]
  refine tk1 20 (.int .i64 op) rfl (fun w' hSw => by obtain ⟨z0, z1, z2, z3, z4, z5⟩ := box6 hSw.2; go_simp) hS ?_
  try simp only [Act.put, xg0, xg1, xg2, xs0, xs1, xs2]
  refine wpAnyH_ready (rs := [2, 21]) (by kernel_rfl) (by simp) ?_
  refine AllReadyH.cons (o := _) rfl (fun K hK => ?_) ?_
  · skip
    obtain ⟨w47_, hw2⟩ : ∃ w2, w36_.alloc (.map #[] 0) = w2 := ⟨_, rfl⟩
    have HMP := Lib.hid (show EMap w47_ w36_.heap.size by rw [← hw2]; exact EMap.new _)
    have hS2 : Below wa.drew.heap.size wa.drew w47_ ∧ Blk w47_ w.heap.size #[.int .i64 P, .slice A bins.length c, .int .i64 b0, .int .i64 b1, .int .i64 a0, .int .i64 a1] 26 := by rw [← hw2]; exact ⟨hS.1.alloc hS.1.size _, hS.2.alloc _⟩
    have hQ0 := Lib.hid hS.1.size
    have HW2 := Lib.hid hw2
    clear hw2
    go_simp
    show K _ (w36_.alloc (.map #[] 0))
    rw [HW2.out]
    refine hK.out _ _ hS2 (fun hS => ?_)
    clear hK K HW2 hS2
    try simp only [Act.put, xg0, xg1, xg2, xs0, xs1, xs2]
    refine tk1 3 (.agg #[.int .i64 P, .slice A bins.length c, .int .i64 b0, .int .i64 b1, .int .i64 a0, .int .i64 a1, .slice At lt.length ct, .map (some w36_.heap.size)]) rfl (fun w' hSw => by obtain ⟨z0, z1, z2, z3, z4, z5⟩ := box6 hSw.2; go_simp) hS ?_
    try simp only [Act.put, xg0, xg1, xg2, xs0, xs1, xs2]
    refine wpAnyH_ready (rs := [4, 21]) (by kernel_rfl) (by simp) ?_
    refine AllReadyH.cons (o := _) rfl (fun K hK => ?_) ?_
    · skip
      obtain ⟨w48_, hw2⟩ : ∃ w2, w47_.alloc (.cells #[.int .i64 P, .slice A bins.length c, .int .i64 b0, .int .i64 b1, .int .i64 a0, .int .i64 a1, .slice At lt.length ct, .map (some w36_.heap.size)] 107 (0, 0)) = w2 := ⟨_, rfl⟩
      have HBX := Lib.hid (show Blk w48_ w47_.heap.size #[.int .i64 P, .slice A bins.length c, .int .i64 b0, .int .i64 b1, .int .i64 a0, .int .i64 a1, .slice At lt.length ct, .map (some w36_.heap.size)] 107 by rw [← hw2]; exact Blk.new _ _ _)
      have hQ := Lib.hid (show wa.drew.heap.size ≤ w36_.heap.size ∧ w36_.heap.size < w47_.heap.size from ⟨hQ0.out, HMP.out.2⟩)
      have HMP := Lib.hid (show EMap w48_ w36_.heap.size by rw [← hw2]; exact HMP.out.alloc _)
      have hS2 : Below wa.drew.heap.size wa.drew w48_ ∧ Blk w48_ w.heap.size #[.int .i64 P, .slice A bins.length c, .int .i64 b0, .int .i64 b1, .int .i64 a0, .int .i64 a1] 26 := by rw [← hw2]; exact ⟨hS.1.alloc hS.1.size _, hS.2.alloc _⟩
      have HW2 := Lib.hid hw2
      clear hw2
      go_simp
      show K _ (w47_.alloc (.cells #[.int .i64 P, .slice A bins.length c, .int .i64 b0, .int .i64 b1, .int .i64 a0, .int .i64 a1, .slice At lt.length ct, .map (some w36_.heap.size)] 107 (0, 0)))
      rw [HW2.out]
      refine hK.out _ _ hS2 (fun hS => ?_)
      clear hK K HW2 hS2
      try simp only [Act.put, xg0, xg1, xg2, xs0, xs1, xs2]
      refine wpAnyH_ready (rs := [21]) (by kernel_rfl) (by simp) ?_
      refine AllReadyH.cons (o := _) rfl (fun K hK => ?_) AllReadyH.nil
      go_simp
      refine (f_within op 0 1000000 _ ho0 ho1).mono ?_
      rintro e2 w49_ ⟨rfl, rfl⟩
      go_wp2_with fail
      refine hK.out _ _ hS (fun hS => ?_)
      clear hK K
      try simp only [Act.put, xg0, xg1, xg2, xs0, xs1, xs2]
      refine tk1 22 (.bool true) rfl (fun w' hSw => by obtain ⟨z0, z1, z2, z3, z4, z5⟩ := box6 hSw.2; go_simp) hS ?_
      try simp only [Act.put, xg0, xg1, xg2, xs0, xs1, xs2]
      refine tk1 23 (.pointer (some ⟨w47_.heap.size, 0, none⟩)) rfl (fun w' hSw => by obtain ⟨z0, z1, z2, z3, z4, z5⟩ := box6 hSw.2; go_simp) hS ?_
      try simp only [Act.put, xg0, xg1, xg2, xs0, xs1, xs2]
      refine tk1 24 (.bool true) rfl (fun w' hSw => by obtain ⟨z0, z1, z2, z3, z4, z5⟩ := box6 hSw.2; go_simp) hS ?_
      try simp only [Act.put, xg0, xg1, xg2, xs0, xs1, xs2]
      refine wpAnyH_done (by kernel_rfl) ?_ _
      go_wp2
      go_ret2
      exact ⟨_, _, rfl, by have := HZ.out; have := hQ.out; omega, by have := HZ.out; have := hQ.out; omega, by have := hQ.out; omega, HBX.out, HMP.out, chain HW hS⟩
    refine AllReadyH.cons (o := _) rfl (fun K hK => ?_) AllReadyH.nil
    go_simp
    refine (f_within op 0 1000000 _ ho0 ho1).mono ?_
    rintro e2 w50_ ⟨rfl, rfl⟩
    go_wp2_with fail
    refine hK.out _ _ hS (fun hS => ?_)
    clear hK K
    try simp only [Act.put, xg0, xg1, xg2, xs0, xs1, xs2]
    refine tk1 22 (.bool true) rfl (fun w' hSw => by obtain ⟨z0, z1, z2, z3, z4, z5⟩ := box6 hSw.2; go_simp) hS ?_
    try simp only [Act.put, xg0, xg1, xg2, xs0, xs1, xs2]
    refine wpAnyH_ready (rs := [4]) (by kernel_rfl) (by simp) ?_
    refine AllReadyH.cons (o := _) rfl (fun K hK => ?_) AllReadyH.nil
    obtain ⟨w51_, hw2⟩ : ∃ w2, w47_.alloc (.cells #[.int .i64 P, .slice A bins.length c, .int .i64 b0, .int .i64 b1, .int .i64 a0, .int .i64 a1, .slice At lt.length ct, .map (some w36_.heap.size)] 107 (0, 0)) = w2 := ⟨_, rfl⟩
    have HBX := Lib.hid (show Blk w51_ w47_.heap.size #[.int .i64 P, .slice A bins.length c, .int .i64 b0, .int .i64 b1, .int .i64 a0, .int .i64 a1, .slice At lt.length ct, .map (some w36_.heap.size)] 107 by rw [← hw2]; exact Blk.new _ _ _)
    have hQ := Lib.hid (show wa.drew.heap.size ≤ w36_.heap.size ∧ w36_.heap.size < w47_.heap.size from ⟨hQ0.out, HMP.out.2⟩)
    have HMP := Lib.hid (show EMap w51_ w36_.heap.size by rw [← hw2]; exact HMP.out.alloc _)
    have hS2 : Below wa.drew.heap.size wa.drew w51_ ∧ Blk w51_ w.heap.size #[.int .i64 P, .slice A bins.length c, .int .i64 b0, .int .i64 b1, .int .i64 a0, .int .i64 a1] 26 := by rw [← hw2]; exact ⟨hS.1.alloc hS.1.size _, hS.2.alloc _⟩
    have HW2 := Lib.hid hw2
    clear hw2
    go_simp
    show K _ (w47_.alloc (.cells #[.int .i64 P, .slice A bins.length c, .int .i64 b0, .int .i64 b1, .int .i64 a0, .int .i64 a1, .slice At lt.length ct, .map (some w36_.heap.size)] 107 (0, 0)))
    rw [HW2.out]
    refine hK.out _ _ hS2 (fun hS => ?_)
    clear hK K HW2 hS2
    try simp only [Act.put, xg0, xg1, xg2, xs0, xs1, xs2]
    refine tk1 23 (.pointer (some ⟨w47_.heap.size, 0, none⟩)) rfl (fun w' hSw => by obtain ⟨z0, z1, z2, z3, z4, z5⟩ := box6 hSw.2; go_simp) hS ?_
    try simp only [Act.put, xg0, xg1, xg2, xs0, xs1, xs2]
    refine tk1 24 (.bool true) rfl (fun w' hSw => by obtain ⟨z0, z1, z2, z3, z4, z5⟩ := box6 hSw.2; go_simp) hS ?_
    try simp only [Act.put, xg0, xg1, xg2, xs0, xs1, xs2]
    refine wpAnyH_done (by kernel_rfl) ?_ _
    go_wp2
    go_ret2
    exact ⟨_, _, rfl, by have := HZ.out; have := hQ.out; omega, by have := HZ.out; have := hQ.out; omega, by have := hQ.out; omega, HBX.out, HMP.out, chain HW hS⟩
  refine AllReadyH.cons (o := _) rfl (fun K hK => ?_) AllReadyH.nil
  go_simp
  refine (f_within op 0 1000000 _ ho0 ho1).mono ?_
  rintro e2 w52_ ⟨rfl, rfl⟩
  go_wp2_with fail
  refine hK.out _ _ hS (fun hS => ?_)
  clear hK K
  try simp only [Act.put, xg0, xg1, xg2, xs0, xs1, xs2]
  refine tk1 22 (.bool true) rfl (fun w' hSw => by obtain ⟨z0, z1, z2, z3, z4, z5⟩ := box6 hSw.2; go_simp) hS ?_
  try simp only [Act.put, xg0, xg1, xg2, xs0, xs1, xs2]
  refine wpAnyH_ready (rs := [2]) (by kernel_rfl) (by simp) ?_
  refine AllReadyH.cons (o := _) rfl (fun K hK => ?_) AllReadyH.nil
  obtain ⟨w53_, hw2⟩ : ∃ w2, w36_.alloc (.map #[] 0) = w2 := ⟨_, rfl⟩
  have HMP := Lib.hid (show EMap w53_ w36_.heap.size by rw [← hw2]; exact EMap.new _)
  have hS2 : Below wa.drew.heap.size wa.drew w53_ ∧ Blk w53_ w.heap.size #[.int .i64 P, .slice A bins.length c, .int .i64 b0, .int .i64 b1, .int .i64 a0, .int .i64 a1] 26 := by rw [← hw2]; exact ⟨hS.1.alloc hS.1.size _, hS.2.alloc _⟩
  have hQ0 := Lib.hid hS.1.size
  have HW2 := Lib.hid hw2
  clear hw2
  go_simp
  show K _ (w36_.alloc (.map #[] 0))
  rw [HW2.out]
  refine hK.out _ _ hS2 (fun hS => ?_)
  clear hK K HW2 hS2
  try simp only [Act.put, xg0, xg1, xg2, xs0, xs1, xs2]
  refine tk1 3 (.agg #[.int .i64 P, .slice A bins.length c, .int .i64 b0, .int .i64 b1, .int .i64 a0, .int .i64 a1, .slice At lt.length ct, .map (some w36_.heap.size)]) rfl (fun w' hSw => by obtain ⟨z0, z1, z2, z3, z4, z5⟩ := box6 hSw.2; go_simp) hS ?_
  try simp only [Act.put, xg0, xg1, xg2, xs0, xs1, xs2]
  refine wpAnyH_ready (rs := [4]) (by kernel_rfl) (by simp) ?_
  refine AllReadyH.cons (o := _) rfl (fun K hK => ?_) AllReadyH.nil
  obtain ⟨w54_, hw2⟩ : ∃ w2, w53_.alloc (.cells #[.int .i64 P, .slice A bins.length c, .int .i64 b0, .int .i64 b1, .int .i64 a0, .int .i64 a1, .slice At lt.length ct, .map (some w36_.heap.size)] 107 (0, 0)) = w2 := ⟨_, rfl⟩
  have HBX := Lib.hid (show Blk w54_ w53_.heap.size #[.int .i64 P, .slice A bins.length c, .int .i64 b0, .int .i64 b1, .int .i64 a0, .int .i64 a1, .slice At lt.length ct, .map (some w36_.heap.size)] 107 by rw [← hw2]; exact Blk.new _ _ _)
  have hQ := Lib.hid (show wa.drew.heap.size ≤ w36_.heap.size ∧ w36_.heap.size < w53_.heap.size from ⟨hQ0.out, HMP.out.2⟩)
  have HMP := Lib.hid (show EMap w54_ w36_.heap.size by rw [← hw2]; exact HMP.out.alloc _)
  have hS2 : Below wa.drew.heap.size wa.drew w54_ ∧ Blk w54_ w.heap.size #[.int .i64 P, .slice A bins.length c, .int .i64 b0, .int .i64 b1, .int .i64 a0, .int .i64 a1] 26 := by rw [← hw2]; exact ⟨hS.1.alloc hS.1.size _, hS.2.alloc _⟩
  have HW2 := Lib.hid hw2
  clear hw2
  go_simp
  show K _ (w53_.alloc (.cells #[.int .i64 P, .slice A bins.length c, .int .i64 b0, .int .i64 b1, .int .i64 a0, .int .i64 a1, .slice At lt.length ct, .map (some w36_.heap.size)] 107 (0, 0)))
  rw [HW2.out]
  refine hK.out _ _ hS2 (fun hS => ?_)
  clear hK K HW2 hS2
  try simp only [Act.put, xg0, xg1, xg2, xs0, xs1, xs2]
  refine tk1 23 (.pointer (some ⟨w53_.heap.size, 0, none⟩)) rfl (fun w' hSw => by obtain ⟨z0, z1, z2, z3, z4, z5⟩ := box6 hSw.2; go_simp) hS ?_
  try simp only [Act.put, xg0, xg1, xg2, xs0, xs1, xs2]
  refine tk1 24 (.bool true) rfl (fun w' hSw => by obtain ⟨z0, z1, z2, z3, z4, z5⟩ := box6 hSw.2; go_simp) hS ?_
  try simp only [Act.put, xg0, xg1, xg2, xs0, xs1, xs2]
  refine wpAnyH_done (by kernel_rfl) ?_ _
  go_wp2
  go_ret2
  exact ⟨_, _, rfl, by have := HZ.out; have := hQ.out; omega, by have := HZ.out; have := hQ.out; omega, by have := hQ.out; omega, HBX.out, HMP.out, chain HW hS⟩
end Go.Proofs.Yteigcddmbpfahaa.Cn
