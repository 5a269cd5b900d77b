import Derived.Test.YteigcddmbpfahaaGj
import Derived.Test.YteigcddmbpfahaaTk
namespace Go.Proofs.Yteigcddmbpfahaa.Cn
set_option linter.unusedVariables false
set_option linter.unusedSimpArgs false
open Go.RowKit Go.Proofs.YteigcddmbpfahaaW.PrintWords Go.Proofs.YteigcddmbpfahaaW.PrintLast Go.Proofs.YteigcddmbpfahaaW.PrintMore Go.Proofs.Yteigcddmbpfahaa.Pc

theorem results_tct {P : Program} {fn : Func} {p u v : Tmp} {ty : TypeId} (h : fn.results = #[.tmp u, .cell p ty, .tmp v]) (tmps : Array Value) (w : World) (g : Nat) (t : TypeId) (cs : Array Value) (fr : Nat × Nat) (d : TypeDesc)
    (hp : tmps.getD p undef = .pointer (some ⟨g, 0, none⟩)) (hg : w.heap[g]? = some (.cells cs t fr))
    (hu : P.underlying ty = some d) (hd : (match d with | .struct _ | .array _ _ => true | _ => false) = true) (hi : (P.info? ty).map (·.size) = some cs.size) :
    (results fn tmps).run P w = .ok (.tuple #[tmps.getD u undef, .agg cs, tmps.getD v undef]) w := by
  have hp' : tmps[p]?.getD undef = .pointer (some ⟨g, 0, none⟩) := by simpa using hp
  simp [results, h, hp', asAddr, run_loadVar_row w g t ty cs fr d hg hu hd hi]
theorem best1_ok (w : World) : Calls Try.prog 40 #[] w fun e w' => e = .returned (.bool true) ∧ Below w.heap.size w w' := by
  go_enter Try.func40, Try.ntmps40
  go_wp2
  go_ret
  exact ⟨rfl, Below.refl _ _⟩

def BestRet (w : World) (st : BSt) (e : Ending) (w' : World) : Prop :=
  (st.best = [] ∧ e = .returned (.tuple #[.slice none 0 0, .agg #[.int .i64 0, .int .i64 0], .int .i64 5]) ∧ Below w.heap.size w w') ∨
  (st.best ≠ [] ∧ ∃ ad c', e = .returned (.tuple #[.slice (some ad) st.best.length c', .agg #[.int .i64 st.w, .int .i64 st.a], .int .i64 0]) ∧ Kd.C (Kd.int .i64) w' (some ad) st.best.length st.best ∧ st.best.length ≤ c' ∧ Below w.heap.size w w')

set_option maxRecDepth 100000 in
set_option maxHeartbeats 4000000 in
theorem best_ok (P lv bu : Int) (A : Option Addr) (c : Nat) (ss : List S58) (s : Nat) (N : Int) (w : World)
    (hg : CampG P lv bu ss s) (hr : Kd.C k58 w A ss.length ss) (hc : ss.length ≤ c)
    (hN : (cwholeV P s).1 = N) (hN0 : 0 ≤ N) (hN1 : N ≤ 1152921504606846976) (ho : ∀ l, ChoiceG bu ss l → OddsOk P s ss lv N l) :
    Calls Try.prog 15 #[.agg #[.int .i64 P, .int .i64 lv, .int .i64 bu, .slice A ss.length c], .int .i64 s] w (BestRet w (bestOf P s ss lv N (choicesL ss bu))) := by
  have HC := Lib.hid hr
  have HG := Lib.hid hg
  have HO := Lib.hid ho
  have HN := Lib.hid (And.intro hN (And.intro hN0 hN1))
  obtain ⟨wa, hwa⟩ : ∃ wa, (w.alloc (.cells #[.int .i64 P, .int .i64 lv, .int .i64 bu, .slice A ss.length c] 43 (0, 0))).alloc (.cells #[.int .i64 0, .int .i64 0] 48 (0, 0)) = wa := ⟨_, rfl⟩
  have hb3 : Blk wa w.heap.size #[.int .i64 P, .int .i64 lv, .int .i64 bu, .slice A ss.length c] 43 := by rw [← hwa]; exact (Blk.new w _ _).alloc _
  have hb6 : Blk wa (w.heap.size + 1) #[.int .i64 0, .int .i64 0] 48 := by
    rw [← hwa]
    have := Blk.new (w.alloc (.cells #[.int .i64 P, .int .i64 lv, .int .i64 bu, .slice A ss.length c] 43 (0, 0))) #[.int .i64 0, .int .i64 0] 48
    rwa [World.size_alloc] at this
  have hwb : Below w.heap.size w wa := by rw [← hwa]; exact ((Below.refl w.heap.size w).alloc (Nat.le_refl _) _).alloc (by simp) _
  have hsz : wa.heap.size = w.heap.size + 2 := by rw [← hwa]; simp
  have y0 := hb3.cell 0
  have y1 := hb3.cell 1
  have y2 := hb3.cell 2
  have y3 := hb3.cell 3
  simp at y0 y1 y2 y3
  have HB6 := Lib.hid hb6
  have HW := Lib.hid hwb
  have HSZ := Lib.hid hsz
  have HASK := Lib.hid (ask_ok P lv bu A c ss s 40 #[] wa hg (Kd.C_below hr hwb) hc (fun _ => by simp [go_sem]) (fun wx hx => best1_ok wx))
  clear hr hg ho hN hN0 hN1 hb3 hb6 hwb hsz
  go_enter Try.func15, Try.ntmps15
  go_wp2_with fail
  clear hwa
  refine HASK.out.mono ?_
  rintro e2 w2 ⟨b, m, rfl, ht, hm, hb, hb2⟩
  have HT := Lib.hid ht
  have HW2 := Lib.hid (HW.out.trans (hb2.mono HW.out.size))
  have HSZ2 := Lib.hid hb2.size
  have HB62 := Lib.hid (HB6.out.below hb2 HB6.out.lt)
  have HX := Lib.hid (best_calls b m P lv bu A c ss s [] wa.heap.size N w2 HG.out hc ht (Kd.C_below HC.out HW2.out) hm hb hb2.size HN.out.1 HN.out.2.1 HN.out.2.2 HO.out)
  clear ht hm hb hb2 y0 y1 y2 y3 HASK
  go_wp2_with fail
  refine HX.out.mono ?_
  rintro e3 w3 ⟨A', c', rfl, h1, h2, h3, h4, h5, h6⟩
  have HB63 := Lib.hid (HB62.out.below h5 HB6.out.lt)
  have HW3 := Lib.hid (HW2.out.trans (h5.mono (by have := HSZ.out; omega)))
  have HP := Lib.hid (And.intro h1 (And.intro h2 (And.intro h3 h4)))
  have H6 := Lib.hid h6
  generalize hst : bestOf P s ss lv N (choicesL ss bu) = st at *
  clear h1 h2 h3 h4 h5 h6 HX hst
  obtain ⟨tb, tw, ta, tg⟩ := st
  simp only at HP
  have v0 := HB63.out.free 0
  have v1 := HB63.out.free 1
  have u0 := HB63.out.cell 0
  have u1 := HB63.out.cell 1
  simp at u0 u1
  rcases A' with _ | ad
  · obtain ⟨hbe, hc0⟩ := HP.out.2.2.1 rfl
    subst hbe hc0
    have heq := eql_nil2
    obtain ⟨w4, hw4⟩ : ∃ w4, w3.alloc (.cells #[.int .i64 tw, .int .i64 ta] 48 (0, 0)) = w4 := ⟨_, rfl⟩
    have hb4 : Below w3.heap.size w3 w4 := by rw [← hw4]; exact (Below.refl w3.heap.size w3).alloc (Nat.le_refl _) _
    have HB4 := Lib.hid hb4
    have HB64 := Lib.hid (HB63.out.below hb4 HB63.out.lt)
    clear hb4 v0 v1 u0 u1
    have v0 := HB64.out.free 0
    have v1 := HB64.out.free 1
    have u0 := HB64.out.cell 0
    have u1 := HB64.out.cell 1
    simp at u0 u1
    go_wp2
    have hbF := (HB64.out.setCell 0 (.int .i64 0)).setCell 1 (.int .i64 0)
    simp only [List.setIfInBounds_toArray, List.set_cons_zero, List.set_cons_succ] at hbF
    refine bodyPost_ret (results_tct rfl _ _ (w.heap.size + 1) 48 _ (0, 0) _ rfl hbF Try.underlying48 rfl (by kernel_rfl)) rfl ?_
    exact Or.inl ⟨rfl, rfl, ((HW3.out.trans (HB4.out.mono HW3.out.size)).setCell (p := ⟨w.heap.size + 1, 0, none⟩) (by simp) _).setCell (p := ⟨w.heap.size + 1, 1, none⟩) (by simp) _⟩
  · have hne : tb ≠ [] := fun e => by have := HP.out.2.2.2 e; cases this
    have HNE := Lib.hid hne
    have heq := eql_nil ad tb.length c'
    obtain ⟨w4, hw4⟩ : ∃ w4, w3.alloc (.cells #[.int .i64 tw, .int .i64 ta] 48 (0, 0)) = w4 := ⟨_, rfl⟩
    have hb4 : Below w3.heap.size w3 w4 := by rw [← hw4]; exact (Below.refl w3.heap.size w3).alloc (Nat.le_refl _) _
    have hb10 : Blk w4 w3.heap.size #[.int .i64 tw, .int .i64 ta] 48 := by rw [← hw4]; exact Blk.new w3 _ _
    have hb64 := HB63.out.below hb4 HB63.out.lt
    have hC4 := Kd.C_below HP.out.1 hb4
    have z0 := hb10.cell 0
    have z1 := hb10.cell 1
    simp at z0 z1
    have HB4 := Lib.hid hb4
    have HB64 := Lib.hid hb64
    have HC4 := Lib.hid hC4
    have hlt3 : w.heap.size + 1 < w3.heap.size := HB63.out.lt
    have HLT3 := Lib.hid hlt3
    clear hb4 hb10 hb64 hC4 hne v0 v1 u0 u1 hlt3
    go_wp2_with fail
    clear hw4
    generalize hbx : w3.heap.size = bx at *
    refine' region_to ?reg ?rest
    case reg =>
      refine wp_region_held_drew (S := fun w' => (∃ x y : Int, Blk w' (w.heap.size + 1) #[.int .i64 x, .int .i64 y] 48) ∧ w'.cell? ⟨bx, 0, none⟩ = some (.int .i64 tw) ∧ w'.cell? ⟨bx, 1, none⟩ = some (.int .i64 ta)) (by kernel_rfl) ⟨⟨_, _, HB64.out.drew⟩, z0, z1⟩ (fun hS => ?_)
      refine tk1 0 (.slice (some ad) tb.length c') rfl (fun w' hSw => by go_simp) hS ?_
      try simp only [Act.put, xg0, xg1, xg2, xs0, xs1, xs2]
      refine tk1 1 (.agg #[.int .i64 tw, .int .i64 ta]) rfl (fun w' hSw => by obtain ⟨_, h0, h1⟩ := hSw; go_simp) hS ?_
      try simp only [Act.put, xg0, xg1, xg2, xs0, xs1, xs2]
      refine tk1 2 (.slice (some ad) tb.length c') rfl (fun w' hSw => by go_simp) hS ?_
      try simp only [Act.put, xg0, xg1, xg2, xs0, xs1, xs2]
      refine wpAnyH_ready (rs := [3]) (by kernel_rfl) (by simp) ?_
      refine AllReadyH.cons (o := _) rfl (fun K' hK => ?_) AllReadyH.nil
      have p0 := HB64.out.cell 0
      have p1 := HB64.out.cell 1
      have f0 := HB64.out.free 0
      have f1 := HB64.out.free 1
      simp at p0 p1
      have hbw : Blk ((w4.setCell ⟨w.heap.size + 1, 0, none⟩ (.int .i64 tw)).setCell ⟨w.heap.size + 1, 1, none⟩ (.int .i64 ta)).drew (w.heap.size + 1) #[.int .i64 tw, .int .i64 ta] 48 := by
        have := ((HB64.out.setCell 0 (.int .i64 tw)).setCell 1 (.int .i64 ta)).drew
        simpa using this
      have hq : w.heap.size + 1 ≠ bx := by have := HLT3.out; omega
      have q1 : ((w4.setCell ⟨w.heap.size + 1, 0, none⟩ (.int .i64 tw)).setCell ⟨w.heap.size + 1, 1, none⟩ (.int .i64 ta)).drew.cell? ⟨bx, 0, none⟩ = some (.int .i64 tw) := by
        rw [← z0]
        exact (World.cell?_setCell_far _ _ _ _ hq).trans (World.cell?_setCell_far _ _ _ _ hq)
      have q2 : ((w4.setCell ⟨w.heap.size + 1, 0, none⟩ (.int .i64 tw)).setCell ⟨w.heap.size + 1, 1, none⟩ (.int .i64 ta)).drew.cell? ⟨bx, 1, none⟩ = some (.int .i64 ta) := by
        rw [← z1]
        exact (World.cell?_setCell_far _ _ _ _ hq).trans (World.cell?_setCell_far _ _ _ _ hq)
      have HQS := Lib.hid (And.intro (show ∃ x y : Int, Blk _ (w.heap.size + 1) #[.int .i64 x, .int .i64 y] 48 from ⟨_, _, hbw⟩) (And.intro q1 q2))
      clear hbw q1 q2
      go_simp
      refine hK.out _ _ HQS.out (fun hS => ?_)
      clear hK K'
      try simp only [Act.put, xg0, xg1, xg2, xs0, xs1, xs2]
      refine tk1 4 (.int .i64 0) rfl (fun w' hSw => by go_simp) hS ?_
      try simp only [Act.put, xg0, xg1, xg2, xs0, xs1, xs2]
      refine wpAnyH_done (by kernel_rfl) ?_ _
      exact ⟨rfl, rfl⟩
    case rest =>
      obtain ⟨wf, hwf⟩ : ∃ wf, ((w4.setCell ⟨w.heap.size + 1, 0, none⟩ (.int .i64 tw)).setCell ⟨w.heap.size + 1, 1, none⟩ (.int .i64 ta)).drew = wf := ⟨_, rfl⟩
      have hbF : Blk wf (w.heap.size + 1) #[.int .i64 tw, .int .i64 ta] 48 := by
        rw [← hwf]
        have := ((HB64.out.setCell 0 (.int .i64 tw)).setCell 1 (.int .i64 ta)).drew
        simpa using this
      have hgr : Kd.C (Kd.int .i64) wf (some ad) tb.length tb := by
        have h1 := H6.out ad rfl
        have h2 := HSZ2.out
        have h3 := HSZ.out
        refine ints_blk (w := w4) (fun ad' e _ => ?_) HC4.out
        cases e
        rw [← hwf]
        exact (Below.heap_setCell _ _ _ _ (by simp; omega)).trans (Below.heap_setCell _ _ _ _ (by simp; omega))
      have hbel : Below w.heap.size w wf := by
        rw [← hwf]
        exact (((HW3.out.trans (HB4.out.mono (by rw [← hbx]; exact HW3.out.size))).setCell (p := ⟨w.heap.size + 1, 0, none⟩) (by simp) _).setCell (p := ⟨w.heap.size + 1, 1, none⟩) (by simp) _).drew
      have HFIN := Lib.hid (And.intro hgr hbel)
      have HBF := Lib.hid hbF
      clear hbF hgr hbel z0 z1
      go_wp2
      rw [hwf]
      refine bodyPost_ret (results_tct rfl _ _ (w.heap.size + 1) 48 _ (0, 0) _ rfl HBF.out Try.underlying48 rfl (by kernel_rfl)) rfl ?_
      exact Or.inr ⟨HNE.out, ad, c', rfl, HFIN.out.1, HP.out.2.1, HFIN.out.2⟩
end Go.Proofs.Yteigcddmbpfahaa.Cn
