import Derived.Test.YteigcddmbpfahaaGd
namespace Go.Proofs.Yteigcddmbpfahaa.Cn
set_option linter.unusedVariables false
set_option linter.unusedSimpArgs false
open Go.RowKit Go.Proofs.YteigcddmbpfahaaW.PrintWords Go.Proofs.YteigcddmbpfahaaW.PrintLast Go.Proofs.YteigcddmbpfahaaW.PrintMore Go.Proofs.Yteigcddmbpfahaa.Pc

theorem run_makeMap_none {P : Program} {t : TypeId} (w : World) : (Instr.makeMap t none).run P w = .ok (.map (some w.heap.size)) (w.alloc (.map #[] 0)) := by
  simp [Instr.makeMap, Result.andThen]

set_option maxRecDepth 100000 in
set_option maxHeartbeats 4000000 in
theorem ask_ok (P lv bu : Int) (A : Option Addr) (c : Nat) (ss : List S58) (s : Nat) (f : FuncId) (cap : Array Value) (w : World)
    (hg : CampG P lv bu ss s) (hr : Kd.C k58 w A ss.length ss) (hc : ss.length ≤ c) (hf : ∀ w, (callFunc f cap).run Try.prog w = .ok (.enter f cap) w)
    (hfine : ∀ wx, Below w.heap.size w wx → Calls Try.prog f cap wx fun e w' => e = .returned (.bool true) ∧ Below wx.heap.size wx w') :
    Calls Try.prog 39 #[.agg #[.int .i64 P, .int .i64 lv, .int .i64 bu, .slice A ss.length c], .int .i64 s, .func (.func f) #[] cap] w fun e w' =>
      ∃ b m, e = .returned (.tuple #[.pointer (some ⟨b, 0, none⟩), .int .i64 0]) ∧ Tel w' b m P lv bu A c ss s [] ∧ w.heap.size ≤ m ∧ w.heap.size ≤ b ∧ Below w.heap.size w w' := by
  have HC := Lib.hid hr
  have HG := Lib.hid hg
  have HF := Lib.hid hfine
  obtain ⟨wa, hwa⟩ : ∃ wa, w.alloc (.cells #[.int .i64 P, .int .i64 lv, .int .i64 bu, .slice A ss.length c] 43 (0, 0)) = wa := ⟨_, rfl⟩
  have hb3 : Blk wa w.heap.size #[.int .i64 P, .int .i64 lv, .int .i64 bu, .slice A ss.length c] 43 := by rw [← hwa]; exact Blk.new w _ _
  have hwb : Below w.heap.size w wa := by rw [← hwa]; exact (Below.refl w.heap.size w).alloc (Nat.le_refl _) _
  have y0 := hb3.cell 0
  have y1 := hb3.cell 1
  have y2 := hb3.cell 2
  have y3 := hb3.cell 3
  simp at y0 y1 y2 y3
  have HB3 := Lib.hid hb3
  have HW := Lib.hid hwb
  have hs0 : decide ((s : Int) < 0) = false := decide_eq_false (by omega)
  have HWH := Lib.hid (fun wx => cwhole_calls P s wx hg.p2 hg.p3)
  rw [hg.wh] at HWH
  generalize (cwholeV P s).1 = N at *
  clear hr hg hfine hb3 hwb
  go_enter Try.func39, Try.ntmps39
  go_wp2_with fail
  clear hwa
  refine (camp_planned.calls 10 P lv bu A c ss true _ (Kd.C_below HC.out HW.out) hc (planned_ok HG.out)).mono ?_
  rintro e2 w2 ⟨rfl, hb2⟩
  have HW2 := Lib.hid (HW.out.trans (hb2.mono HW.out.size))
  have HB32 := Lib.hid (HB3.out.below hb2 HB3.out.lt)
  clear hb2 y0 y1 y2 y3
  go_wp2_with fail
  refine (HF.out _ HW2.out).mono ?_
  rintro e3 w3 ⟨rfl, hb3⟩
  have HW3 := Lib.hid (HW2.out.trans (hb3.mono HW2.out.size))
  have HB33 := Lib.hid (HB32.out.below hb3 HB32.out.lt)
  clear hb3
  have y0 := HB33.out.cell 0
  have y1 := HB33.out.cell 1
  have y2 := HB33.out.cell 2
  have y3 := HB33.out.cell 3
  simp at y0 y1 y2 y3
  go_wp2_with fail
  refine (HWH.out _).mono ?_
  rintro e4 w4 ⟨rfl, rfl⟩
  have hmk : ∀ W : World, (Instr.makeMap 124 none).run Try.prog W = .ok (.map (some W.heap.size)) (W.alloc (.map #[] 0)) := fun W => run_makeMap_none W
  go_wp2
  go_ret2
  refine ⟨w3.heap.size + 1, w3.heap.size, rfl, ⟨?_, ?_, ?_, fun k v hv => by cases hv⟩, ?_, ?_, ?_⟩
  · have := Blk.new (w3.alloc (.map #[] 0)) #[.int .i64 P, .int .i64 lv, .int .i64 bu, .slice A ss.length c, .int .i64 s, .map (some w3.heap.size)] 126
    rw [World.size_alloc] at this
    exact this
  · exact (MapAt.new encS w3).keep (by rw [(MapKept.heap_alloc _ _).2 _ (by simp)])
  · omega
  · exact HW3.out.size
  · have := HW3.out.size; omega
  · exact (HW3.out.alloc HW3.out.size _).alloc (by have := HW3.out.size; simp; omega) _

set_option maxRecDepth 100000 in
set_option maxHeartbeats 4000000 in
theorem power1_ok (b1 b2 : Nat) (P lv bu : Int) (A : Option Addr) (c : Nat) (ss : List S58) (s : Nat) (A1 : Option Addr) (c1 : Nat) (l : List Int) (w : World)
    (hg : CampG P lv bu ss s) (hch : ChoiceG bu ss l) (hr : Kd.C k58 w A ss.length ss) (hc : ss.length ≤ c) (hr1 : Kd.C (Kd.int .i64) w A1 l.length l) (hc1 : l.length ≤ c1)
    (h1 : Blk w b1 #[.int .i64 P, .int .i64 lv, .int .i64 bu, .slice A ss.length c] 43) (h2 : Blk w b2 #[.slice A1 l.length c1] 44) :
    Calls Try.prog 43 #[.pointer (some ⟨b1, 0, none⟩), .pointer (some ⟨b2, 0, none⟩)] w fun e w' => e = .returned (.bool true) ∧ Below w.heap.size w w' := by
  have HX := Lib.hid (camp_chosen.calls 20 P lv bu A c ss A1 c1 l true w hr hc hr1 hc1 (chosen_ok hg hch))
  have y0 := h1.cell 0
  have y1 := h1.cell 1
  have y2 := h1.cell 2
  have y3 := h1.cell 3
  have x0 := h2.cell 0
  simp at y0 y1 y2 y3 x0
  clear hr hr1 h1 h2 hg hch
  go_enter Try.func43, Try.ntmps43
  go_wp2_with fail
  refine HX.out.mono ?_
  rintro e2 w2 ⟨rfl, hb2⟩
  have HB2 := Lib.hid hb2
  clear hb2
  go_wp2
  go_ret
  exact ⟨rfl, HB2.out⟩

set_option maxRecDepth 100000 in
set_option maxHeartbeats 4000000 in
theorem power_ok (P lv bu : Int) (A : Option Addr) (c : Nat) (ss : List S58) (s : Nat) (A1 : Option Addr) (c1 : Nat) (l : List Int) (w : World)
    (hg : CampG P lv bu ss s) (hch : ChoiceG bu ss l) (hr : Kd.C k58 w A ss.length ss) (hc : ss.length ≤ c) (hr1 : Kd.C (Kd.int .i64) w A1 l.length l) (hc1 : l.length ≤ c1) :
    Calls Try.prog 17 #[.agg #[.int .i64 P, .int .i64 lv, .int .i64 bu, .slice A ss.length c], .slice A1 l.length c1, .int .i64 s] w fun e w' =>
      e = .returned (.tuple #[.agg #[.int .i64 (oddsW P s ss lv false l), .int .i64 (oddsA P s ss lv false l)], .int .i64 0]) ∧ Below w.heap.size w w' := by
  have HC := Lib.hid hr
  have HC1 := Lib.hid hr1
  have HG := Lib.hid hg
  have HCH := Lib.hid hch
  generalize hW : oddsW P s ss lv false l = W
  generalize hA : oddsA P s ss lv false l = AL
  have HWW := Lib.hid hW
  have HAL := Lib.hid hA
  obtain ⟨wa, hwa⟩ : ∃ wa, ((w.alloc (.cells #[.int .i64 P, .int .i64 lv, .int .i64 bu, .slice A ss.length c] 43 (0, 0))).alloc (.cells #[.slice A1 l.length c1] 44 (0, 0))).alloc (.cells #[.int .i64 0, .int .i64 0] 48 (0, 0)) = wa := ⟨_, rfl⟩
  have hb3 : Blk wa w.heap.size #[.int .i64 P, .int .i64 lv, .int .i64 bu, .slice A ss.length c] 43 := by rw [← hwa]; exact ((Blk.new w _ _).alloc _).alloc _
  have hb4 : Blk wa (w.heap.size + 1) #[.slice A1 l.length c1] 44 := by
    rw [← hwa]
    have := (Blk.new (w.alloc (.cells #[.int .i64 P, .int .i64 lv, .int .i64 bu, .slice A ss.length c] 43 (0, 0))) #[.slice A1 l.length c1] 44).alloc (.cells #[.int .i64 0, .int .i64 0] 48 (0, 0))
    rwa [World.size_alloc] at this
  have hb6 : Blk wa (w.heap.size + 1 + 1) #[.int .i64 0, .int .i64 0] 48 := by
    rw [← hwa]
    have := Blk.new ((w.alloc (.cells #[.int .i64 P, .int .i64 lv, .int .i64 bu, .slice A ss.length c] 43 (0, 0))).alloc (.cells #[.slice A1 l.length c1] 44 (0, 0))) #[.int .i64 0, .int .i64 0] 48
    rwa [World.size_alloc, World.size_alloc] at this
  have hwb : Below w.heap.size w wa := by rw [← hwa]; exact (((Below.refl w.heap.size w).alloc (Nat.le_refl _) _).alloc (by simp) _).alloc (by simp; omega) _
  have y0 := hb3.cell 0
  have y1 := hb3.cell 1
  have y2 := hb3.cell 2
  have y3 := hb3.cell 3
  have x0 := hb4.cell 0
  simp at y0 y1 y2 y3 x0
  have HB3 := Lib.hid hb3
  have HB4 := Lib.hid hb4
  have HB6 := Lib.hid hb6
  have HW := Lib.hid hwb
  have HASK := Lib.hid (ask_ok P lv bu A c ss s 43 #[.pointer (some ⟨w.heap.size, 0, none⟩), .pointer (some ⟨w.heap.size + 1, 0, none⟩)] wa hg (Kd.C_below hr hwb) hc (fun _ => by simp [go_sem])
    (fun wx hx => power1_ok _ _ P lv bu A c ss s A1 c1 l wx hg hch (Kd.C_below (Kd.C_below hr hwb) hx) hc (Kd.C_below (Kd.C_below hr1 hwb) hx) hc1 (hb3.below hx hb3.lt) (hb4.below hx hb4.lt)))
  clear hr hr1 hg hch hb3 hb4 hb6 hwb hW hA
  go_enter Try.func17, Try.ntmps17
  go_wp2_with fail
  clear hwa
  refine HASK.out.mono ?_
  rintro e2 w2 ⟨b, m, rfl, ht, hm, hb, hb2⟩
  have HT := Lib.hid ht
  have HM := Lib.hid hm
  have HBB := Lib.hid hb
  have HW2 := Lib.hid (HW.out.trans (hb2.mono HW.out.size))
  have HB62 := Lib.hid (HB6.out.below hb2 HB6.out.lt)
  have HB42 := Lib.hid (HB4.out.below hb2 HB4.out.lt)
  clear ht hm hb hb2 y0 y1 y2 y3 x0
  have x0 := HB42.out.cell 0
  simp at x0
  have hX := odds_calls b m P lv bu A c ss s [] A1 c1 l false w2 HT.out (Kd.C_below HC.out HW2.out) (Kd.C_below HC1.out HW2.out) HCH.out.n3 (by have := HG.out.l2; omega) HG.out.l3 HCH.out.inS
  rw [HWW.out, HAL.out] at hX
  have HX := Lib.hid hX
  clear hX
  go_wp2_with fail
  refine HX.out.mono ?_
  rintro e3 w3 ⟨rfl, hb3, L3, hT3⟩
  have HB63 := Lib.hid (hb3.blk HB62.out (by have := HM.out; have := HB6.out.lt; omega))
  have hl6 := HB6.out.lt
  have hmm := HM.out
  have hww := HW.out.size
  have HF : Hid (Below w.heap.size w w3) := Lib.hid (HW2.out.trans (hb3.below.mono (by have := HW2.out.size; omega)))
  clear hb3 hT3 hl6 hmm hww x0
  have t0 := HB63.out.cell 0
  have t1 := HB63.out.cell 1
  have v0 := HB63.out.free 0
  have v1 := HB63.out.free 1
  simp at t0 t1
  go_wp2
  have hbF := (HB63.out.setCell 0 (.int .i64 W)).setCell 1 (.int .i64 AL)
  simp only [List.setIfInBounds_toArray, List.set_cons_zero, List.set_cons_succ] at hbF
  refine bodyPost_ret (results_ct rfl _ _ (w.heap.size + 1 + 1) 48 _ (0, 0) _ rfl hbF Try.underlying48 rfl (by kernel_rfl)) rfl ?_
  exact ⟨rfl, (HF.out.setCell (p := ⟨w.heap.size + 1 + 1, 0, none⟩) (by simp; omega) _).setCell (p := ⟨w.heap.size + 1 + 1, 1, none⟩) (by simp; omega) _⟩

end Go.Proofs.Yteigcddmbpfahaa.Cn
