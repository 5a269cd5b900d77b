import Derived.Test.YteigcddmbpfahaaGf
import Derived.Test.YteigcddmbpfahaaTk
namespace Go.Proofs.Yteigcddmbpfahaa.Cn
set_option linter.unusedVariables false
set_option linter.unusedSimpArgs false
open Go.RowKit Go.Proofs.YteigcddmbpfahaaW.PrintWords Go.Proofs.YteigcddmbpfahaaW.PrintLast Go.Proofs.YteigcddmbpfahaaW.PrintMore Go.Proofs.Yteigcddmbpfahaa.Pc
attribute [local go_sem] Oper.semAt_some
def MoreDone (K : Nat → Prop) (W0 : World) (base l bt bn yb bm : Nat) (J : (Nat → Prop) → List Yld → World → Prop) (xs : List Int) (R : List (List Int)) (e : Ending) (W' : World) : Prop :=
  e = .returned (.bool true) ∧ ∃ O' pre' v', Now W' base l bt bn yb bm O' v' xs ∧ KQ K W0 W' ∧ J O' pre' W' ∧ pre'.map lstY = R
def MoreSpec (K : Nat → Prop) (W0 : World) (base l bt bn yb bm : Nat) (bu : Int) (ss : List S58) (J : (Nat → Prop) → List Yld → World → Prop) (d : Nat) : Prop :=
  ∀ (n : Nat) (xs : List Int) (i0 : Nat) (O : Nat → Prop) (pre : List Yld) (W : World) (v : Value), xs.length + d + 1 = 3 → i0 ≤ ss.length → UpTo xs i0 →
    Now W base l bt bn yb bm O v xs → KQ K W0 W → J O pre W →
    CallsIn Fence.wide n Try.prog 87 #[.int .i64 i0, .pointer (some ⟨bt, 0, none⟩), .pointer (some ⟨bn, 0, none⟩), .pointer (some ⟨yb, 0, none⟩), .pointer (some ⟨bm, 0, none⟩)] W
      (MoreDone K W0 base l bt bn yb bm J xs (pre.map lstY ++ moreL ss bu d (ss.length - i0) xs i0))
structure Went (K : Nat → Prop) (W0 : World) (base l bt bn yb bm : Nat) (bu : Int) (ss : List S58) (J : (Nat → Prop) → List Yld → World → Prop) (d : Nat) (xs : List Int) (R : List (List Int)) (i : Nat) (w : World) : Prop where
  out : ∃ O pre v, Now w base l bt bn yb bm O v xs ∧ KQ K W0 w ∧ J O pre w ∧ pre.map lstY ++ moreL ss bu d (ss.length - i) xs i = R

set_option maxRecDepth 100000 in
set_option maxHeartbeats 8000000 in
theorem more_step (K : Nat → Prop) (W0 : World) (base l b m bt bn yb bm : Nat) (P lv bu : Int) (A : Option Addr) (c : Nat) (ss : List S58) (s : Nat) (J : (Nat → Prop) → List Yld → World → Prop)
    (hstab : ∀ O O' pre A B, J O pre A → Chg O A B → (∀ k, O' k → O k ∨ A.heap.size ≤ k) → J O' pre B)
    (hY : ∀ n O pre x W1, J O pre W1 → CxY ss bu pre x W1 → (∀ k, O k → k < W1.heap.size) → YieldAt Fence.wide n Try.prog l (encY x) W1 fun e W' => e = .returned (.bool true) ∧ J O (pre ++ [x]) W' ∧ (KQ K W1 W' ∧ W1.heap.size ≤ W'.heap.size) ∧ ∀ k, O k → W'.heap[k]? = W1.heap[k]?)
    (hg : CampG P lv bu ss s) (hc : ss.length ≤ c)
    (hb : Blk W0 b #[.int .i64 P, .int .i64 lv, .int .i64 bu, .slice A ss.length c, .int .i64 s, .map (some m)] 126) (hbt : Blk W0 bt #[.pointer (some ⟨b, 0, none⟩)] 90) (hr : Kd.C k58 W0 A ss.length ss)
    (hKb : K b) (hKt : K bt) (hKs : ∀ ad, A = some ad → K ad.block) (hKl : ∀ k, K k → k < base)
    (d : Nat) (IH : ∀ d', d = d' + 1 → MoreSpec K W0 base l bt bn yb bm bu ss J d') : MoreSpec K W0 base l bt bn yb bm bu ss J d := by
  intro n xs i0 O pre W v hd hi0 hup hnow hkq hJ
  have HSTAB := Lib.hid hstab
  have HY := Lib.hid hY
  have HG := Lib.hid hg
  have HB := Lib.hid hb
  have HBT := Lib.hid hbt
  have HR := Lib.hid hr
  have HK := Lib.hid (show (K b ∧ K bt) ∧ (∀ ad, A = some ad → K ad.block) ∧ (∀ k, K k → k < base) from ⟨⟨hKb, hKt⟩, hKs, hKl⟩)
  have HIH := Lib.hid IH
  have HD := Lib.hid hd
  have HUP := Lib.hid hup
  obtain ⟨R, hR⟩ : ∃ R, pre.map lstY ++ moreL ss bu d (ss.length - i0) xs i0 = R := ⟨_, rfl⟩
  rw [hR]
  have HW := Lib.hid (show Went K W0 base l bt bn yb bm bu ss J d xs R i0 W from ⟨O, pre, v, hnow, hkq, hJ, hR⟩)
  have hn8 : ss.length ≤ 8 := hg.n2
  clear hstab hY hg hb hbt hr hKb hKt hKs hKl IH hd hup hnow hkq hJ hR pre O v
  refine callsIn_of_wp Try.func87 rfl trivial ?_ rfl
  simp only [Try.ntmps87, List.size_toArray, List.length_cons, List.length_nil, Nat.reduceAdd, Nat.reduceSub, Array.replicate_succ, Array.replicate_zero, List.push_toArray, List.append_toArray, List.nil_append, List.cons_append]
  gi_wp2_with fail
  gi_loopw [7] (fun v7 wr => ∃ i : Nat, v7 = .int .i64 i ∧ i0 ≤ i ∧ i ≤ ss.length ∧ Hid (Went K W0 base l bt bn yb bm bu ss J d xs R i wr)) (fun v7 _ => ss.length - (intOf v7).toNat)
  case atStart => exact ⟨i0, rfl, Nat.le_refl _, hi0, HW⟩
  case round =>
    obtain ⟨i, rfl, hi1, hi2, HWr⟩ := hrel
    obtain ⟨O, pre, v, hnow, hkq, hJ, hR⟩ := HWr.out.out
    have HN := Lib.hid hnow
    have HQ := Lib.hid hkq
    have HJ := Lib.hid hJ
    have y3 := (HQ.out.blk HB.out HK.out.1.1).cell 3
    have x0 := (HQ.out.blk HBT.out HK.out.1.2).cell 0
    simp at y3 x0
    by_cases hlt : i < ss.length
    · have hltI : (i : Int) < (ss.length : Int) := by omega
      obtain ⟨v2, w2, hrun, hb2, hn2, hc2⟩ := now_push HN.out (by have := HD.out; omega) (i : Int)
      have hxl : xs.length ≤ 2 := by have := HD.out; omega
      have hupx := HUP.out.mono hi1
      have hin : InS ss (xs ++ [(i : Int)]) := fun x hx => by have := hupx.snoc.inS x hx; omega
      have hcho : costV ss (xs ++ [(i : Int)]) ≤ bu → ChoiceG bu ss (xs ++ [(i : Int)]) := fun hq => hupx.choice hlt (by omega) hq
      have hy1 : 1 ≤ (xs ++ [(i : Int)]).length ∧ (xs ++ [(i : Int)]).length ≤ 3 := by simp; omega
      have HUPS := Lib.hid hupx.snoc
      obtain ⟨ys, hys⟩ : ∃ ys, xs ++ [(i : Int)] = ys := ⟨_, rfl⟩
      have HYS := Lib.hid hys
      rw [hys] at hn2 hin hcho hy1 HUPS
      obtain ⟨hy1, hy3⟩ := hy1
      obtain ⟨A2, c2, hv2, hC2, hl2, hA2, hg2⟩ := row_reads hn2.row
      obtain ⟨g, hg3⟩ := hg2 hy1
      subst hg3
      subst hv2
      have hyl : ys.length = xs.length + 1 := by rw [← hys]; simp
      have HYL := Lib.hid hyl
      have n0 := HN.out.now.cell 0
      have m0 := hb2.cell 0
      have m1 := hb2.free 0
      simp at n0 m0
      obtain ⟨w3, hw3⟩ : ∃ w3, w2.setCell ⟨bn, 0, none⟩ (.slice (some ⟨g, 0, none⟩) ys.length c2) = w3 := ⟨_, rfl⟩
      have hs23 : w3.heap.size = w2.heap.size := by rw [← hw3]; simp
      rw [hw3] at hn2 hc2 hC2
      rw [← hs23] at hn2
      have HN2 := Lib.hid hn2
      have HC2 := Lib.hid hc2
      have HRR := Lib.hid hR
      have HL2 := Lib.hid hl2
      have HC3 := Lib.hid hC2
      have HIN := Lib.hid hin
      have HCHO := Lib.hid hcho
      have HRUN := Lib.hid hrun
      have HXL := Lib.hid hxl
      have HUPX := Lib.hid hupx
      have hlow : ∀ k, K k → k < base := HK.out.2.2
      have HQ3 := Lib.hid (HQ.out.trans (KQ.chg hc2 hlow HN.out.low HN.out.base))
      have HSI := Lib.hid (HQ3.out.sites HK.out.2.1 HR.out)
      have hblk := HQ3.out.blk HB.out HK.out.1.1
      have z1 := (HQ3.out.blk HBT.out HK.out.1.2).cell 0
      have z2 := hblk.cell 0
      have z3 := hblk.cell 1
      have z4 := hblk.cell 2
      have z5 := hblk.cell 3
      have z6 := hn2.now.cell 0
      have z7 := hn2.yl.cell 0
      have HLT := Lib.hid hn2.lt
      simp at z1 z2 z3 z4 z5 z6 z7
      clear hnow hkq hJ hR hn2 hc2 hb2 hA2 hg2 hC2 hl2 hrun hyl hys hin hcho hblk hlow hs23 hxl hupx
      gi_wp2_with ((with_reducible refine gate_in (b := .append) (xs := #[.tmp 19, .tmp 21]) rfl ?_); refine wpListIn_append_eq rfl (.tmp 19) (.tmp 21) _ rfl _ _ rfl rfl HRUN.out ?_)
      clear HRUN m0 m1 hw3 n0
      by_cases hq : costV ss ys ≤ bu
      · have hqb : decide (costV ss ys ≤ bu) = true := decide_eq_true hq
        have HCH := Lib.hid (HCHO.out hq)
        clear hq
        refine HeldIn.region (S := fun w' => w'.cell? ⟨bt, 0, none⟩ = some (.pointer (some ⟨b, 0, none⟩)) ∧ w'.cell? ⟨b, 0, none⟩ = some (.int .i64 P) ∧ w'.cell? ⟨b, 1, none⟩ = some (.int .i64 lv) ∧ w'.cell? ⟨b, 2, none⟩ = some (.int .i64 bu) ∧ w'.cell? ⟨b, 3, none⟩ = some (.slice A ss.length c) ∧ w'.cell? ⟨bn, 0, none⟩ = some (.slice (some ⟨g, 0, none⟩) ys.length c2) ∧ w'.cell? ⟨yb, 0, none⟩ = some (.func (.yield l) #[] #[])) (by kernel_rfl) ⟨z1, z2, z3, z4, z5, z6, z7⟩ (fun hS => ?_)
        refine HeldIn.take (i := 0) (v := .pointer (some ⟨b, 0, none⟩)) rfl rfl (by kernel_rfl) (by kernel_rfl) (by kernel_rfl) (fun _ _ _ h => h) (fun _ => rfl) (Or.inl ⟨by rfl, fun w' hSw => by obtain ⟨z1, z2, z3, z4, z5, z6, z7⟩ := hSw; go_simp⟩) hS ?_
        try simp only [Act.put, xs0, xs1, xs2]
        refine HeldIn.take (i := 1) (v := .pointer (some ⟨b, 0, none⟩)) rfl rfl (by kernel_rfl) (by kernel_rfl) (by kernel_rfl) (fun _ _ _ h => h) (fun _ => rfl) (Or.inl ⟨by rfl, fun w' hSw => by obtain ⟨z1, z2, z3, z4, z5, z6, z7⟩ := hSw; go_simp⟩) hS ?_
        try simp only [Act.put, xs0, xs1, xs2]
        refine HeldIn.take (i := 2) (v := .pointer (some ⟨b, 0, none⟩)) rfl rfl (by kernel_rfl) (by kernel_rfl) (by kernel_rfl) (fun _ _ _ h => h) (fun _ => rfl) (Or.inl ⟨by rfl, fun w' hSw => by go_simp⟩) hS ?_
        try simp only [Act.put, xs0, xs1, xs2]
        refine HeldIn.take (i := 3) (v := .agg #[.int .i64 P, .int .i64 lv, .int .i64 bu, .slice A ss.length c]) rfl rfl (by kernel_rfl) (by kernel_rfl) (by kernel_rfl) (fun _ _ _ h => h) (fun _ => rfl) (Or.inl ⟨by rfl, fun w' hSw => by obtain ⟨z1, z2, z3, z4, z5, z6, z7⟩ := hSw; go_simp⟩) hS ?_
        try simp only [Act.put, xs0, xs1, xs2]
        refine HeldIn.take (i := 4) (v := .slice (some ⟨g, 0, none⟩) ys.length c2) rfl rfl (by kernel_rfl) (by kernel_rfl) (by kernel_rfl) (fun _ _ _ h => h) (fun _ => rfl) (Or.inl ⟨by rfl, fun w' hSw => by obtain ⟨z1, z2, z3, z4, z5, z6, z7⟩ := hSw; go_simp⟩) hS ?_
        try simp only [Act.put, xs0, xs1, xs2]
        refine HeldIn.take (i := 6) (v := .pointer (some ⟨b, 0, none⟩)) rfl rfl (by kernel_rfl) (by kernel_rfl) (by kernel_rfl) (fun _ _ _ h => h) (fun _ => rfl) (Or.inl ⟨by rfl, fun w' hSw => by obtain ⟨z1, z2, z3, z4, z5, z6, z7⟩ := hSw; go_simp⟩) hS ?_
        try simp only [Act.put, xs0, xs1, xs2]
        refine HeldIn.take (i := 7) (v := .pointer (some ⟨b, 0, none⟩)) rfl rfl (by kernel_rfl) (by kernel_rfl) (by kernel_rfl) (fun _ _ _ h => h) (fun _ => rfl) (Or.inl ⟨by rfl, fun w' hSw => by obtain ⟨z1, z2, z3, z4, z5, z6, z7⟩ := hSw; go_simp⟩) hS ?_
        try simp only [Act.put, xs0, xs1, xs2]
        refine HeldIn.take (i := 8) (v := .pointer (some ⟨b, 0, none⟩)) rfl rfl (by kernel_rfl) (by kernel_rfl) (by kernel_rfl) (fun _ _ _ h => h) (fun _ => rfl) (Or.inl ⟨by rfl, fun w' hSw => by go_simp⟩) hS ?_
        try simp only [Act.put, xs0, xs1, xs2]
        refine HeldIn.take (i := 9) (v := .pointer (some ⟨b, 2, none⟩)) rfl rfl (by kernel_rfl) (by kernel_rfl) (by kernel_rfl) (fun _ _ _ h => h) (fun _ => rfl) (Or.inl ⟨by rfl, fun w' hSw => by go_simp⟩) hS ?_
        try simp only [Act.put, xs0, xs1, xs2]
        refine HeldIn.take (i := 10) (v := .int .i64 bu) rfl rfl (by kernel_rfl) (by kernel_rfl) (by kernel_rfl) (fun _ _ _ h => h) (fun _ => rfl) (Or.inl ⟨by rfl, fun w' hSw => by obtain ⟨z1, z2, z3, z4, z5, z6, z7⟩ := hSw; go_simp⟩) hS ?_
        try simp only [Act.put, xs0, xs1, xs2]
        refine HeldIn.one (i := 5) (by kernel_rfl) rfl (fun K' hK => ?_)
        go_simp
        refine ⟨trivial, fun h => (by simp [Fence.wide] at h), CallsIn.mono (callsIn_wide.2 (camp_cost.calls 20 P lv bu A c ss (some ⟨g, 0, none⟩) c2 ys (costV ss ys) _ (Kd.C_drew HSI.out) hc (Kd.C_drew HC3.out) HL2.out (cost_ok HG.out HIN.out (by omega) (by omega)))) ?_⟩
        rintro e4 w4 ⟨rfl, hb4⟩
        have z1' := kbc hb4 z1
        have z2' := kbc hb4 z2
        have z3' := kbc hb4 z3
        have z4' := kbc hb4 z4
        have z5' := kbc hb4 z5
        have z6' := kbc hb4 z6
        have z7' := kbc hb4 z7
        have HB4 := Lib.hid (show Below w3.heap.size w3 w4 from (Below.refl _ w3).drew.trans hb4)
        clear hb4
        simp only []
        refine hK.out _ _ ⟨z1', z2', z3', z4', z5', z6', z7'⟩ (fun hS => ?_)
        clear hK K'
        try simp only [Act.put, xs0, xs1, xs2]
        refine HeldIn.take (i := 11) (v := .bool true) rfl rfl (by kernel_rfl) (by kernel_rfl) (by kernel_rfl) (fun _ _ _ h => h) (fun _ => rfl) (Or.inl ⟨by rfl, fun w' hSw => by go_simp⟩) hS ?_
        try simp only [Act.put, xs0, xs1, xs2]
        refine HeldIn.take (i := 12) (v := .bool true) rfl rfl (by kernel_rfl) (by kernel_rfl) (by kernel_rfl) (fun _ _ _ h => h) (fun _ => rfl) (Or.inl ⟨by rfl, fun w' hSw => by go_simp⟩) hS ?_
        try simp only [Act.put, xs0, xs1, xs2]
        refine HeldIn.take (i := 13) (v := .func (.yield l) #[] #[]) rfl rfl (by kernel_rfl) (by kernel_rfl) (by kernel_rfl) (fun _ _ _ h => h) (fun _ => rfl) (Or.inl ⟨by rfl, fun w' hSw => by obtain ⟨z1, z2, z3, z4, z5, z6, z7⟩ := hSw; go_simp⟩) hS ?_
        try simp only [Act.put, xs0, xs1, xs2]
        refine HeldIn.take (i := 14) (v := .slice (some ⟨g, 0, none⟩) ys.length c2) rfl rfl (by kernel_rfl) (by kernel_rfl) (by kernel_rfl) (fun _ _ _ h => h) (fun _ => rfl) (Or.inl ⟨by rfl, fun w' hSw => by obtain ⟨z1, z2, z3, z4, z5, z6, z7⟩ := hSw; go_simp⟩) hS ?_
        try simp only [Act.put, xs0, xs1, xs2]
        have HN4 := Lib.hid (HN2.out.keep (fun k hk => HB4.out.block k (HLT.out k hk)) HB4.out.size)
        have HJ4 := Lib.hid (HSTAB.out (fun k => O k ∨ (wr.heap.size ≤ k ∧ k < w3.heap.size)) (fun k => O k ∨ (wr.heap.size ≤ k ∧ k < w3.heap.size)) pre w3 w4 (HSTAB.out O (fun k => O k ∨ (wr.heap.size ≤ k ∧ k < w3.heap.size)) pre wr w3 HJ.out HC2.out (fun k hk => Or.imp id (fun h => h.1) hk)) (Chg.of_below HB4.out) (fun k hk => Or.inl hk))
        have hC4 := Kd.C_below HC3.out HB4.out
        obtain ⟨fn, tmps, assign, body, hy, hRR⟩ := HY.out (n - 1) _ pre ((some ⟨g, 0, none⟩), c2, ys) w4 HJ4.out ⟨HCH.out, hC4, HL2.out⟩ HN4.out.lt
        have hy' : (Instr.yield l #[.slice (some ⟨g, 0, none⟩) ys.length c2]).run Try.prog w4 = .ok (.round l fn tmps assign body) w4 := hy
        have HRD := Lib.hid hRR
        clear hRR hy hC4
        refine HeldIn.one (i := 15) (by kernel_rfl) rfl (fun K' hK => ?_)
        go_simp
        refine ⟨fun h => (by simp [Fence.wide] at h), HRD.out.mono ?_⟩
        rintro e5 w5 ⟨rfl, hJ5, ⟨hK5, hs5⟩, hO5⟩
        simp only []
        have q1 := (World.cell?_of_block (a := ⟨bt, 0, none⟩) (hK5 bt HK.out.1.2)).trans z1'
        have q2 := (World.cell?_of_block (a := ⟨b, 0, none⟩) (hK5 b HK.out.1.1)).trans z2'
        have q3 := (World.cell?_of_block (a := ⟨b, 1, none⟩) (hK5 b HK.out.1.1)).trans z3'
        have q4 := (World.cell?_of_block (a := ⟨b, 2, none⟩) (hK5 b HK.out.1.1)).trans z4'
        have q5 := (World.cell?_of_block (a := ⟨b, 3, none⟩) (hK5 b HK.out.1.1)).trans z5'
        have q6 := (World.cell?_of_block (a := ⟨bn, 0, none⟩) (hO5 bn HN2.out.on)).trans z6'
        have q7 := (World.cell?_of_block (a := ⟨yb, 0, none⟩) (hO5 yb HN2.out.oy)).trans z7'
        refine hK.out _ _ ⟨q1, q2, q3, q4, q5, q6, q7⟩ (fun hS => ?_)
        clear hK K'
        try simp only [Act.put, xs0, xs1, xs2]
        refine HeldIn.take (i := 16) (v := .bool false) rfl rfl (by kernel_rfl) (by kernel_rfl) (by kernel_rfl) (fun _ _ _ h => h) (fun _ => rfl) (Or.inl ⟨by rfl, fun w' hSw => by go_simp⟩) hS ?_
        try simp only [Act.put, xs0, xs1, xs2]
        refine HeldIn.take (i := 17) (v := .bool false) rfl rfl (by kernel_rfl) (by kernel_rfl) (by kernel_rfl) (fun _ _ _ h => h) (fun _ => rfl) (Or.inl ⟨by rfl, fun w' hSw => by go_simp⟩) hS ?_
        try simp only [Act.put, xs0, xs1, xs2]
        refine HeldIn.done (by kernel_rfl) ?_ _
        have HN5 := Lib.hid (HN4.out.keep hO5 hs5)
        have HQ5 := Lib.hid ((HQ3.out.trans (KQ.below HB4.out HK.out.2.2 HN2.out.base)).trans hK5)
        have HJ5 := Lib.hid hJ5
        have HP5 : Hid ((pre ++ [((some (⟨g, 0, none⟩ : Addr), c2, ys) : Yld)]).map lstY = pre.map lstY ++ (if costV ss ys ≤ bu then [ys] else [])) := Lib.hid (by rw [if_pos HCH.out.cost]; simp [lstY])
        generalize pre ++ [((some (⟨g, 0, none⟩ : Addr), c2, ys) : Yld)] = pre5 at *
        clear hS q1 q2 q3 q4 q5 q6 q7 hJ5 hK5 hs5 hO5 hy' HRD z1 z2 z3 z4 z5 z6 z7 z1' z2' z3' z4' z5' z6' z7'
        rcases d with _ | d
        · have h3 : decide ((ys.length : Int) < 3) = false := decide_eq_false (by have := HD.out; have := HYL.out; omega)
          have hcap : ys.length ≤ c2 := HL2.out
          have hx7 : Now (w5.setCell ⟨bn, 0, none⟩ (.slice (some ⟨g, 0, none⟩) xs.length c2)) base l bt bn yb bm (fun k => O k ∨ (wr.heap.size ≤ k ∧ k < w3.heap.size)) (.slice (some ⟨g, 0, none⟩) xs.length c2) xs ∧ Chg (fun k => O k ∨ (wr.heap.size ≤ k ∧ k < w3.heap.size)) w5 (w5.setCell ⟨bn, 0, none⟩ (.slice (some ⟨g, 0, none⟩) xs.length c2)) := now_pop (x := (i : Int)) (by rw [HYS.out]; exact HN5.out)
          have n7 := HN5.out.now.cell 0
          have m7 := HN5.out.now.free 0
          simp at n7
          obtain ⟨w7, hw7⟩ : ∃ w7, w5.setCell ⟨bn, 0, none⟩ (.slice (some ⟨g, 0, none⟩) xs.length c2) = w7 := ⟨_, rfl⟩
          rw [hw7] at hx7
          have heq : pre5.map lstY ++ moreL ss bu 0 (ss.length - (i + 1)) xs (i + 1) = R := by
            rw [← HRR.out, show ss.length - i = (ss.length - (i + 1)) + 1 by omega]
            rw [HP5.out, moreL, HYS.out, List.append_assoc]
          have HW7 : Hid (Went K W0 base l bt bn yb bm bu ss J 0 xs R (i + 1) w7) := Lib.hid ⟨(fun k => O k ∨ (wr.heap.size ≤ k ∧ k < w3.heap.size)), pre5, _, hx7.1, HQ5.out.trans (KQ.chg hx7.2 HK.out.2.2 HN5.out.low HN5.out.base), HSTAB.out _ _ _ _ _ HJ5.out hx7.2 (fun k hk => Or.inl hk), heq⟩
          have hsl : ∀ W' : World, (Instr.slice 44 (.slice (some ⟨g, 0, none⟩) ys.length c2) none (some (.int .i64 ((ys.length : Int) - 1))) none).run Try.prog W' = .ok (.slice (some ⟨g, 0, none⟩) xs.length c2) W' := fun W' => by
            have e : (ys.length : Int) - 1 = (xs.length : Int) := by have := HYL.out; omega
            rw [e, HYL.out]
            exact slice_back (by have := HYL.out; omega) (by have := HXL.out; omega) W'
          have hyI : (1 : Int) ≤ (ys.length : Int) ∧ (ys.length : Int) ≤ 3 := by omega
          have hiI : (i : Int) ≤ 8 := by omega
          clear hx7 heq
          gi_wp2
          refine ⟨fun f hf => (by cases hf), ?_⟩
          gi_wp2
          exact ⟨⟨i + 1, by go_num, by omega, by omega, HW7⟩, by simp [intOf]; omega⟩
        · have h3 : decide ((ys.length : Int) < 3) = true := decide_eq_true (by have := HD.out; have := HYL.out; omega)
          have hmore := HIH.out d rfl (n - 1) ys (i + 1) _ pre5 w5 _ (by have := HD.out; have := HYL.out; omega) (by omega) HUPS.out HN5.out HQ5.out HJ5.out
          have ei : (((i + 1 : Nat)) : Int) = (i : Int) + 1 := by omega
          rw [ei] at hmore
          have HMORE := Lib.hid hmore
          have n6 := HN5.out.now.cell 0
          have m6 := HN5.out.mo.cell 0
          simp at n6 m6
          have hiI8 : (i : Int) ≤ 8 := by omega
          clear hmore ei
          gi_wp2_with fail
          refine ⟨trivial, fun h => (by simp [Fence.wide] at h), HMORE.out.mono ?_⟩
          rintro e6 w6 ⟨rfl, O3, pre3, v3, hn6, hq6, hj6, hp6⟩
          have HN6 := Lib.hid hn6
          have HQ6 := Lib.hid hq6
          have HJ6 := Lib.hid hj6
          have HP6 := Lib.hid hp6
          obtain ⟨A3, c3, hv3, hC6, hl6, hA6, hg6⟩ := row_reads hn6.row
          obtain ⟨g3, hg7⟩ := hg6 hy1
          subst hg7
          subst hv3
          have HL6 := Lib.hid hl6
          have hcap : ys.length ≤ c3 := hl6
          clear hn6 hq6 hj6 hp6 hC6 hA6 hg6 n6 m6 HMORE
          simp only []
          have hx7 : Now (w6.setCell ⟨bn, 0, none⟩ (.slice (some ⟨g3, 0, none⟩) xs.length c3)) base l bt bn yb bm O3 (.slice (some ⟨g3, 0, none⟩) xs.length c3) xs ∧ Chg O3 w6 (w6.setCell ⟨bn, 0, none⟩ (.slice (some ⟨g3, 0, none⟩) xs.length c3)) := now_pop (x := (i : Int)) (by rw [HYS.out]; exact HN6.out)
          have n7 := HN6.out.now.cell 0
          have m7 := HN6.out.now.free 0
          simp at n7
          obtain ⟨w7, hw7⟩ : ∃ w7, w6.setCell ⟨bn, 0, none⟩ (.slice (some ⟨g3, 0, none⟩) xs.length c3) = w7 := ⟨_, rfl⟩
          rw [hw7] at hx7
          have heq : pre3.map lstY ++ moreL ss bu (d + 1) (ss.length - (i + 1)) xs (i + 1) = R := by
            rw [← HRR.out, show ss.length - i = (ss.length - (i + 1)) + 1 by omega]
            rw [HP6.out, HP5.out, moreL, HYS.out, List.append_assoc, List.append_assoc]
          have HW7 : Hid (Went K W0 base l bt bn yb bm bu ss J (d + 1) xs R (i + 1) w7) := Lib.hid ⟨O3, pre3, _, hx7.1, HQ6.out.trans (KQ.chg hx7.2 HK.out.2.2 HN6.out.low HN6.out.base), HSTAB.out _ _ _ _ _ HJ6.out hx7.2 (fun k hk => Or.inl hk), heq⟩
          have hsl : ∀ W' : World, (Instr.slice 44 (.slice (some ⟨g3, 0, none⟩) ys.length c3) none (some (.int .i64 ((ys.length : Int) - 1))) none).run Try.prog W' = .ok (.slice (some ⟨g3, 0, none⟩) xs.length c3) W' := fun W' => by
            have e : (ys.length : Int) - 1 = (xs.length : Int) := by have := HYL.out; omega
            rw [e, HYL.out]
            exact slice_back (by have := HYL.out; omega) (by have := HXL.out; omega) W'
          have hyI : (1 : Int) ≤ (ys.length : Int) ∧ (ys.length : Int) ≤ 3 := by omega
          have hiI : (i : Int) ≤ 8 := by omega
          clear hx7 heq
          gi_wp2
          exact ⟨⟨i + 1, by go_num, by omega, by omega, HW7⟩, by simp [intOf]; omega⟩
      · have hqb : decide (costV ss ys ≤ bu) = false := decide_eq_false hq
        have HNQ := Lib.hid hq
        clear hq
        refine HeldIn.region (S := fun w' => w'.cell? ⟨bt, 0, none⟩ = some (.pointer (some ⟨b, 0, none⟩)) ∧ w'.cell? ⟨b, 0, none⟩ = some (.int .i64 P) ∧ w'.cell? ⟨b, 1, none⟩ = some (.int .i64 lv) ∧ w'.cell? ⟨b, 2, none⟩ = some (.int .i64 bu) ∧ w'.cell? ⟨b, 3, none⟩ = some (.slice A ss.length c) ∧ w'.cell? ⟨bn, 0, none⟩ = some (.slice (some ⟨g, 0, none⟩) ys.length c2) ∧ w'.cell? ⟨yb, 0, none⟩ = some (.func (.yield l) #[] #[])) (by kernel_rfl) ⟨z1, z2, z3, z4, z5, z6, z7⟩ (fun hS => ?_)
        refine HeldIn.take (i := 0) (v := .pointer (some ⟨b, 0, none⟩)) rfl rfl (by kernel_rfl) (by kernel_rfl) (by kernel_rfl) (fun _ _ _ h => h) (fun _ => rfl) (Or.inl ⟨by rfl, fun w' hSw => by obtain ⟨z1, z2, z3, z4, z5, z6, z7⟩ := hSw; go_simp⟩) hS ?_
        try simp only [Act.put, xs0, xs1, xs2]
        refine HeldIn.take (i := 1) (v := .pointer (some ⟨b, 0, none⟩)) rfl rfl (by kernel_rfl) (by kernel_rfl) (by kernel_rfl) (fun _ _ _ h => h) (fun _ => rfl) (Or.inl ⟨by rfl, fun w' hSw => by obtain ⟨z1, z2, z3, z4, z5, z6, z7⟩ := hSw; go_simp⟩) hS ?_
        try simp only [Act.put, xs0, xs1, xs2]
        refine HeldIn.take (i := 2) (v := .pointer (some ⟨b, 0, none⟩)) rfl rfl (by kernel_rfl) (by kernel_rfl) (by kernel_rfl) (fun _ _ _ h => h) (fun _ => rfl) (Or.inl ⟨by rfl, fun w' hSw => by go_simp⟩) hS ?_
        try simp only [Act.put, xs0, xs1, xs2]
        refine HeldIn.take (i := 3) (v := .agg #[.int .i64 P, .int .i64 lv, .int .i64 bu, .slice A ss.length c]) rfl rfl (by kernel_rfl) (by kernel_rfl) (by kernel_rfl) (fun _ _ _ h => h) (fun _ => rfl) (Or.inl ⟨by rfl, fun w' hSw => by obtain ⟨z1, z2, z3, z4, z5, z6, z7⟩ := hSw; go_simp⟩) hS ?_
        try simp only [Act.put, xs0, xs1, xs2]
        refine HeldIn.take (i := 4) (v := .slice (some ⟨g, 0, none⟩) ys.length c2) rfl rfl (by kernel_rfl) (by kernel_rfl) (by kernel_rfl) (fun _ _ _ h => h) (fun _ => rfl) (Or.inl ⟨by rfl, fun w' hSw => by obtain ⟨z1, z2, z3, z4, z5, z6, z7⟩ := hSw; go_simp⟩) hS ?_
        try simp only [Act.put, xs0, xs1, xs2]
        refine HeldIn.take (i := 6) (v := .pointer (some ⟨b, 0, none⟩)) rfl rfl (by kernel_rfl) (by kernel_rfl) (by kernel_rfl) (fun _ _ _ h => h) (fun _ => rfl) (Or.inl ⟨by rfl, fun w' hSw => by obtain ⟨z1, z2, z3, z4, z5, z6, z7⟩ := hSw; go_simp⟩) hS ?_
        try simp only [Act.put, xs0, xs1, xs2]
        refine HeldIn.take (i := 7) (v := .pointer (some ⟨b, 0, none⟩)) rfl rfl (by kernel_rfl) (by kernel_rfl) (by kernel_rfl) (fun _ _ _ h => h) (fun _ => rfl) (Or.inl ⟨by rfl, fun w' hSw => by obtain ⟨z1, z2, z3, z4, z5, z6, z7⟩ := hSw; go_simp⟩) hS ?_
        try simp only [Act.put, xs0, xs1, xs2]
        refine HeldIn.take (i := 8) (v := .pointer (some ⟨b, 0, none⟩)) rfl rfl (by kernel_rfl) (by kernel_rfl) (by kernel_rfl) (fun _ _ _ h => h) (fun _ => rfl) (Or.inl ⟨by rfl, fun w' hSw => by go_simp⟩) hS ?_
        try simp only [Act.put, xs0, xs1, xs2]
        refine HeldIn.take (i := 9) (v := .pointer (some ⟨b, 2, none⟩)) rfl rfl (by kernel_rfl) (by kernel_rfl) (by kernel_rfl) (fun _ _ _ h => h) (fun _ => rfl) (Or.inl ⟨by rfl, fun w' hSw => by go_simp⟩) hS ?_
        try simp only [Act.put, xs0, xs1, xs2]
        refine HeldIn.take (i := 10) (v := .int .i64 bu) rfl rfl (by kernel_rfl) (by kernel_rfl) (by kernel_rfl) (fun _ _ _ h => h) (fun _ => rfl) (Or.inl ⟨by rfl, fun w' hSw => by obtain ⟨z1, z2, z3, z4, z5, z6, z7⟩ := hSw; go_simp⟩) hS ?_
        try simp only [Act.put, xs0, xs1, xs2]
        refine HeldIn.one (i := 5) (by kernel_rfl) rfl (fun K' hK => ?_)
        go_simp
        refine ⟨trivial, fun h => (by simp [Fence.wide] at h), CallsIn.mono (callsIn_wide.2 (camp_cost.calls 20 P lv bu A c ss (some ⟨g, 0, none⟩) c2 ys (costV ss ys) _ (Kd.C_drew HSI.out) hc (Kd.C_drew HC3.out) HL2.out (cost_ok HG.out HIN.out (by omega) (by omega)))) ?_⟩
        rintro e4 w4 ⟨rfl, hb4⟩
        have z1' := kbc hb4 z1
        have z2' := kbc hb4 z2
        have z3' := kbc hb4 z3
        have z4' := kbc hb4 z4
        have z5' := kbc hb4 z5
        have z6' := kbc hb4 z6
        have z7' := kbc hb4 z7
        have HB4 := Lib.hid (show Below w3.heap.size w3 w4 from (Below.refl _ w3).drew.trans hb4)
        clear hb4
        simp only []
        refine hK.out _ _ ⟨z1', z2', z3', z4', z5', z6', z7'⟩ (fun hS => ?_)
        clear hK K'
        try simp only [Act.put, xs0, xs1, xs2]
        refine HeldIn.take (i := 11) (v := .bool false) rfl rfl (by kernel_rfl) (by kernel_rfl) (by kernel_rfl) (fun _ _ _ h => h) (fun _ => rfl) (Or.inl ⟨by rfl, fun w' hSw => by go_simp⟩) hS ?_
        try simp only [Act.put, xs0, xs1, xs2]
        refine HeldIn.take (i := 12) (v := .bool false) rfl rfl (by kernel_rfl) (by kernel_rfl) (by kernel_rfl) (fun _ _ _ h => h) (fun _ => rfl) (Or.inl ⟨by rfl, fun w' hSw => by go_simp⟩) hS ?_
        try simp only [Act.put, xs0, xs1, xs2]
        refine HeldIn.take (i := 13) (v := undef) rfl rfl (by kernel_rfl) (by kernel_rfl) (by kernel_rfl) (fun _ _ _ h => h) (fun _ => rfl) (Or.inr ⟨by rfl, rfl⟩) hS ?_
        try simp only [Act.put, xs0, xs1, xs2]
        refine HeldIn.take (i := 14) (v := undef) rfl rfl (by kernel_rfl) (by kernel_rfl) (by kernel_rfl) (fun _ _ _ h => h) (fun _ => rfl) (Or.inr ⟨by rfl, rfl⟩) hS ?_
        try simp only [Act.put, xs0, xs1, xs2]
        refine HeldIn.one (i := 15) (by kernel_rfl) rfl (fun K' hK => ?_)
        go_simp
        refine ⟨fun _ _ => trivial, hK.out _ _ ⟨z1', z2', z3', z4', z5', z6', z7'⟩ (fun hS => ?_)⟩
        clear hK K'
        try simp only [Act.put, xs0, xs1, xs2]
        refine HeldIn.take (i := 16) (v := undef) rfl rfl (by kernel_rfl) (by kernel_rfl) (by kernel_rfl) (fun _ _ _ h => h) (fun _ => rfl) (Or.inr ⟨by rfl, rfl⟩) hS ?_
        try simp only [Act.put, xs0, xs1, xs2]
        refine HeldIn.take (i := 17) (v := .bool false) rfl rfl (by kernel_rfl) (by kernel_rfl) (by kernel_rfl) (fun _ _ _ h => h) (fun _ => rfl) (Or.inl ⟨by rfl, fun w' hSw => by go_simp⟩) hS ?_
        try simp only [Act.put, xs0, xs1, xs2]
        refine HeldIn.done (by kernel_rfl) ?_ _
        obtain ⟨w5, hw5⟩ : ∃ w5, w4 = w5 := ⟨_, rfl⟩
        have HN5 := Lib.hid (HN2.out.keep (fun k hk => HB4.out.block k (HLT.out k hk)) HB4.out.size)
        have HJ5 := Lib.hid (HSTAB.out (fun k => O k ∨ (wr.heap.size ≤ k ∧ k < w3.heap.size)) (fun k => O k ∨ (wr.heap.size ≤ k ∧ k < w3.heap.size)) pre w3 w4 (HSTAB.out O (fun k => O k ∨ (wr.heap.size ≤ k ∧ k < w3.heap.size)) pre wr w3 HJ.out HC2.out (fun k hk => Or.imp id (fun h => h.1) hk)) (Chg.of_below HB4.out) (fun k hk => Or.inl hk))
        have HQ5 := Lib.hid (HQ3.out.trans (KQ.below HB4.out HK.out.2.2 HN2.out.base))
        have HP5 : Hid (pre.map lstY = pre.map lstY ++ (if costV ss ys ≤ bu then [ys] else [])) := Lib.hid (by rw [if_neg HNQ.out]; simp)
        obtain ⟨pre5, hp5⟩ : ∃ pre5, pre = pre5 := ⟨_, rfl⟩
        have HP5 : Hid (pre5.map lstY = pre.map lstY ++ (if costV ss ys ≤ bu then [ys] else [])) := by rw [← hp5]; exact HP5
        rw [hp5] at HJ5
        rw [hw5] at HN5 HJ5 HQ5 ⊢
        clear hp5 hw5 hS z1 z2 z3 z4 z5 z6 z7 z1' z2' z3' z4' z5' z6' z7'
        rcases d with _ | d
        · have h3 : decide ((ys.length : Int) < 3) = false := decide_eq_false (by have := HD.out; have := HYL.out; omega)
          have hcap : ys.length ≤ c2 := HL2.out
          have hx7 : Now (w5.setCell ⟨bn, 0, none⟩ (.slice (some ⟨g, 0, none⟩) xs.length c2)) base l bt bn yb bm (fun k => O k ∨ (wr.heap.size ≤ k ∧ k < w3.heap.size)) (.slice (some ⟨g, 0, none⟩) xs.length c2) xs ∧ Chg (fun k => O k ∨ (wr.heap.size ≤ k ∧ k < w3.heap.size)) w5 (w5.setCell ⟨bn, 0, none⟩ (.slice (some ⟨g, 0, none⟩) xs.length c2)) := now_pop (x := (i : Int)) (by rw [HYS.out]; exact HN5.out)
          have n7 := HN5.out.now.cell 0
          have m7 := HN5.out.now.free 0
          simp at n7
          obtain ⟨w7, hw7⟩ : ∃ w7, w5.setCell ⟨bn, 0, none⟩ (.slice (some ⟨g, 0, none⟩) xs.length c2) = w7 := ⟨_, rfl⟩
          rw [hw7] at hx7
          have heq : pre5.map lstY ++ moreL ss bu 0 (ss.length - (i + 1)) xs (i + 1) = R := by
            rw [← HRR.out, show ss.length - i = (ss.length - (i + 1)) + 1 by omega]
            rw [HP5.out, moreL, HYS.out, List.append_assoc]
          have HW7 : Hid (Went K W0 base l bt bn yb bm bu ss J 0 xs R (i + 1) w7) := Lib.hid ⟨(fun k => O k ∨ (wr.heap.size ≤ k ∧ k < w3.heap.size)), pre5, _, hx7.1, HQ5.out.trans (KQ.chg hx7.2 HK.out.2.2 HN5.out.low HN5.out.base), HSTAB.out _ _ _ _ _ HJ5.out hx7.2 (fun k hk => Or.inl hk), heq⟩
          have hsl : ∀ W' : World, (Instr.slice 44 (.slice (some ⟨g, 0, none⟩) ys.length c2) none (some (.int .i64 ((ys.length : Int) - 1))) none).run Try.prog W' = .ok (.slice (some ⟨g, 0, none⟩) xs.length c2) W' := fun W' => by
            have e : (ys.length : Int) - 1 = (xs.length : Int) := by have := HYL.out; omega
            rw [e, HYL.out]
            exact slice_back (by have := HYL.out; omega) (by have := HXL.out; omega) W'
          have hyI : (1 : Int) ≤ (ys.length : Int) ∧ (ys.length : Int) ≤ 3 := by omega
          have hiI : (i : Int) ≤ 8 := by omega
          clear hx7 heq
          gi_wp2
          refine ⟨fun f hf => (by cases hf), ?_⟩
          gi_wp2
          exact ⟨⟨i + 1, by go_num, by omega, by omega, HW7⟩, by simp [intOf]; omega⟩
        · have h3 : decide ((ys.length : Int) < 3) = true := decide_eq_true (by have := HD.out; have := HYL.out; omega)
          have hmore := HIH.out d rfl (n - 1) ys (i + 1) _ pre5 w5 _ (by have := HD.out; have := HYL.out; omega) (by omega) HUPS.out HN5.out HQ5.out HJ5.out
          have ei : (((i + 1 : Nat)) : Int) = (i : Int) + 1 := by omega
          rw [ei] at hmore
          have HMORE := Lib.hid hmore
          have n6 := HN5.out.now.cell 0
          have m6 := HN5.out.mo.cell 0
          simp at n6 m6
          have hiI8 : (i : Int) ≤ 8 := by omega
          clear hmore ei
          gi_wp2_with fail
          refine ⟨trivial, fun h => (by simp [Fence.wide] at h), HMORE.out.mono ?_⟩
          rintro e6 w6 ⟨rfl, O3, pre3, v3, hn6, hq6, hj6, hp6⟩
          have HN6 := Lib.hid hn6
          have HQ6 := Lib.hid hq6
          have HJ6 := Lib.hid hj6
          have HP6 := Lib.hid hp6
          obtain ⟨A3, c3, hv3, hC6, hl6, hA6, hg6⟩ := row_reads hn6.row
          obtain ⟨g3, hg7⟩ := hg6 hy1
          subst hg7
          subst hv3
          have HL6 := Lib.hid hl6
          have hcap : ys.length ≤ c3 := hl6
          clear hn6 hq6 hj6 hp6 hC6 hA6 hg6 n6 m6 HMORE
          simp only []
          have hx7 : Now (w6.setCell ⟨bn, 0, none⟩ (.slice (some ⟨g3, 0, none⟩) xs.length c3)) base l bt bn yb bm O3 (.slice (some ⟨g3, 0, none⟩) xs.length c3) xs ∧ Chg O3 w6 (w6.setCell ⟨bn, 0, none⟩ (.slice (some ⟨g3, 0, none⟩) xs.length c3)) := now_pop (x := (i : Int)) (by rw [HYS.out]; exact HN6.out)
          have n7 := HN6.out.now.cell 0
          have m7 := HN6.out.now.free 0
          simp at n7
          obtain ⟨w7, hw7⟩ : ∃ w7, w6.setCell ⟨bn, 0, none⟩ (.slice (some ⟨g3, 0, none⟩) xs.length c3) = w7 := ⟨_, rfl⟩
          rw [hw7] at hx7
          have heq : pre3.map lstY ++ moreL ss bu (d + 1) (ss.length - (i + 1)) xs (i + 1) = R := by
            rw [← HRR.out, show ss.length - i = (ss.length - (i + 1)) + 1 by omega]
            rw [HP6.out, HP5.out, moreL, HYS.out, List.append_assoc, List.append_assoc]
          have HW7 : Hid (Went K W0 base l bt bn yb bm bu ss J (d + 1) xs R (i + 1) w7) := Lib.hid ⟨O3, pre3, _, hx7.1, HQ6.out.trans (KQ.chg hx7.2 HK.out.2.2 HN6.out.low HN6.out.base), HSTAB.out _ _ _ _ _ HJ6.out hx7.2 (fun k hk => Or.inl hk), heq⟩
          have hsl : ∀ W' : World, (Instr.slice 44 (.slice (some ⟨g3, 0, none⟩) ys.length c3) none (some (.int .i64 ((ys.length : Int) - 1))) none).run Try.prog W' = .ok (.slice (some ⟨g3, 0, none⟩) xs.length c3) W' := fun W' => by
            have e : (ys.length : Int) - 1 = (xs.length : Int) := by have := HYL.out; omega
            rw [e, HYL.out]
            exact slice_back (by have := HYL.out; omega) (by have := HXL.out; omega) W'
          have hyI : (1 : Int) ≤ (ys.length : Int) ∧ (ys.length : Int) ≤ 3 := by omega
          have hiI : (i : Int) ≤ 8 := by omega
          clear hx7 heq
          gi_wp2
          exact ⟨⟨i + 1, by go_num, by omega, by omega, HW7⟩, by simp [intOf]; omega⟩
    · have hlt' : ¬ (i : Int) < (ss.length : Int) := by omega
      have HRR := Lib.hid hR
      clear hnow hkq hJ hR
      gi_wp2
      go_ret
      refine ⟨rfl, O, pre, v, HN.out, HQ.out, HJ.out, ?_⟩
      rw [← HRR.out, show ss.length - i = 0 by omega]
      cases d <;> simp [moreL]
end Go.Proofs.Yteigcddmbpfahaa.Cn
