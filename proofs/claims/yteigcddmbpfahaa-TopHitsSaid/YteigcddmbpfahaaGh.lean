import Derived.Test.YteigcddmbpfahaaGg
import Derived.Laws.EntriesVeiled
namespace Go.Proofs.Yteigcddmbpfahaa.Cn
set_option linter.unusedVariables false
set_option linter.unusedSimpArgs false
open Go.RowKit Go.Proofs.YteigcddmbpfahaaW.PrintWords Go.Proofs.YteigcddmbpfahaaW.PrintLast Go.Proofs.YteigcddmbpfahaaW.PrintMore Go.Proofs.Yteigcddmbpfahaa.Pc
attribute [local go_sem] Oper.semAt_some

def IterDone (J : (Nat → Prop) → List Yld → World → Prop) (S : List Yld → Prop) (e : Ending) (W' : World) : Prop := (∃ v, e = .returned v) ∧ ∃ xs O, S xs ∧ J O xs W'

set_option maxRecDepth 100000 in
set_option maxHeartbeats 8000000 in
theorem choices_seq (n : Nat) (K : Nat → Prop) (b m bt : Nat) (P lv bu : Int) (A : Option Addr) (c : Nat) (ss : List S58) (s : Nat) (w : World) (hg : CampG P lv bu ss s) (hc : ss.length ≤ c)
    (hb : Blk w b #[.int .i64 P, .int .i64 lv, .int .i64 bu, .slice A ss.length c, .int .i64 s, .map (some m)] 126) (hbt : Blk w bt #[.pointer (some ⟨b, 0, none⟩)] 90) (hr : Kd.C k58 w A ss.length ss)
    (hKb : K b) (hKt : K bt) (hKs : ∀ ad, A = some ad → K ad.block) (hKl : ∀ k, K k → k < w.heap.size) :
    SeqO n Try.prog 86 #[.pointer (some ⟨bt, 0, none⟩)] encY (CxY ss bu) (fun W W' => KQ K W W' ∧ W.heap.size ≤ W'.heap.size) (fun xs => xs.map lstY = choicesL ss bu) w := by
  intro l J W hW hstab hY h0
  have hKl2 : ∀ k, K k → k < W.heap.size := fun k hk => Nat.lt_of_lt_of_le (hKl k hk) hW.size
  have hall : ∀ d, MoreSpec K W W.heap.size l bt (W.heap.size + 1) W.heap.size (W.heap.size + 1 + 1) bu ss J d := by
    intro d
    induction d with
    | zero => exact more_step K W W.heap.size l b m bt _ _ _ P lv bu A c ss s J hstab (fun k O pre x W1 h1 h2 h3 => yield_any k (hY O pre x W1 h1 h2 h3)) hg hc (hb.below hW hb.lt) (hbt.below hW hbt.lt) (Kd.C_below hr hW) hKb hKt hKs hKl2 0 (fun d' h => by cases h)
    | succ d ih => exact more_step K W W.heap.size l b m bt _ _ _ P lv bu A c ss s J hstab (fun k O pre x W1 h1 h2 h3 => yield_any k (hY O pre x W1 h1 h2 h3)) hg hc (hb.below hW hb.lt) (hbt.below hW hbt.lt) (Kd.C_below hr hW) hKb hKt hKs hKl2 (d + 1) (fun d' h => by cases h; exact ih)
  obtain ⟨w4, hw4⟩ : ∃ w4, (((W.alloc (.cells #[.func (.yield l) #[] #[]] 151 (0, 0))).alloc (.cells #[.slice none 0 0] 44 (0, 0))).alloc (.cells #[.nilFunc] 84 (0, 0))).setCell ⟨W.heap.size + 1 + 1, 0, none⟩
      (.func (.func 87) #[] #[.pointer (some ⟨bt, 0, none⟩), .pointer (some ⟨W.heap.size + 1, 0, none⟩), .pointer (some ⟨W.heap.size, 0, none⟩), .pointer (some ⟨W.heap.size + 1 + 1, 0, none⟩)]) = w4 := ⟨_, rfl⟩
  have hb1 : Blk w4 W.heap.size #[.func (.yield l) #[] #[]] 151 := by
    rw [← hw4]
    exact (((Blk.new W _ _).alloc _).alloc _).below ((Below.refl (W.heap.size + 1 + 1) _).setCell (p := ⟨W.heap.size + 1 + 1, 0, none⟩) (Nat.le_refl _) _) (by omega)
  have hb2 : Blk w4 (W.heap.size + 1) #[.slice none 0 0] 44 := by
    rw [← hw4]
    have := (Blk.new (W.alloc (.cells #[.func (.yield l) #[] #[]] 151 (0, 0))) #[.slice none 0 0] 44).alloc (.cells #[.nilFunc] 84 (0, 0))
    rw [World.size_alloc] at this
    exact this.below ((Below.refl (W.heap.size + 1 + 1) _).setCell (p := ⟨W.heap.size + 1 + 1, 0, none⟩) (Nat.le_refl _) _) (by omega)
  have hb3 : Blk w4 (W.heap.size + 1 + 1) #[.func (.func 87) #[] #[.pointer (some ⟨bt, 0, none⟩), .pointer (some ⟨W.heap.size + 1, 0, none⟩), .pointer (some ⟨W.heap.size, 0, none⟩), .pointer (some ⟨W.heap.size + 1 + 1, 0, none⟩)]] 84 := by
    rw [← hw4]
    have := Blk.new ((W.alloc (.cells #[.func (.yield l) #[] #[]] 151 (0, 0))).alloc (.cells #[.slice none 0 0] 44 (0, 0))) #[.nilFunc] 84
    rw [World.size_alloc, World.size_alloc] at this
    have h2 := this.setCell 0 (.func (.func 87) #[] #[.pointer (some ⟨bt, 0, none⟩), .pointer (some ⟨W.heap.size + 1, 0, none⟩), .pointer (some ⟨W.heap.size, 0, none⟩), .pointer (some ⟨W.heap.size + 1 + 1, 0, none⟩)])
    simpa using h2
  have hbel : Below W.heap.size W w4 := by
    rw [← hw4]
    exact ((((Below.refl W.heap.size W).alloc (Nat.le_refl _) _).alloc (by simp) _).alloc (by simp; omega) _).setCell (p := ⟨W.heap.size + 1 + 1, 0, none⟩) (by simp; omega) _
  have hsz : w4.heap.size = W.heap.size + 3 := by rw [← hw4]; simp
  have hnow : Now w4 W.heap.size l bt (W.heap.size + 1) W.heap.size (W.heap.size + 1 + 1) (fun k => W.heap.size ≤ k ∧ k < W.heap.size + 3) (.slice none 0 0) [] :=
    ⟨hb2, ⟨rfl, Or.inl ⟨rfl, rfl⟩⟩, fun k hk => (by cases hk), hb1, hb3, ⟨by omega, by omega⟩, ⟨by omega, by omega⟩, ⟨by omega, by omega⟩, by omega, by omega, fun k hk => hk.1, by omega, fun k hk => by omega⟩
  have hJ4 := hstab (fun _ => False) (fun k => W.heap.size ≤ k ∧ k < W.heap.size + 3) [] W w4 h0 (Chg.of_below hbel) (fun k hk => Or.inr hk.1)
  have hm := hall 2 (n - 1) [] 0 (fun k => W.heap.size ≤ k ∧ k < W.heap.size + 3) [] w4 (.slice none 0 0) rfl (Nat.zero_le _) UpTo.nil hnow (fun k hk => hbel.block k (hKl2 k hk)) hJ4
  rw [show (((0 : Nat)) : Int) = 0 from rfl] at hm
  have HM := Lib.hid hm
  have m3 := hb3.cell 0
  simp at m3
  show CallsIn Fence.wide n Try.prog 86 (#[.func (.yield l) #[] #[]] ++ #[.pointer (some ⟨bt, 0, none⟩)]) W (IterDone J (fun xs => xs.map lstY = choicesL ss bu))
  clear hm hJ4 hnow hsz hbel hb1 hb2 hb3 hall hKl2 h0 hY hstab hW hb hbt hr hKs hKl
  refine callsIn_of_wp Try.func86 rfl trivial ?_ rfl
  simp only [Try.ntmps86, List.size_toArray, List.length_cons, List.length_nil, Nat.reduceAdd, Nat.reduceSub, Array.replicate_succ, Array.replicate_zero, List.push_toArray, List.append_toArray, List.nil_append, List.cons_append]
  gi_wp2_with fail
  refine ⟨trivial, fun h => (by simp [Fence.wide] at h), HM.out.mono ?_⟩
  rintro e6 w6 ⟨rfl, O3, pre3, v3, hn, hq, hj, hp⟩
  have HJ6 := Lib.hid hj
  have HP6 := Lib.hid hp
  clear hn hq hj hp HM
  simp only []
  gi_wp2
  go_end0
  exact ⟨⟨_, rfl⟩, pre3, O3, by have := HP6.out; simpa [choicesL] using this, HJ6.out⟩

theorem choices_calls (b : Nat) (w : World) :
    Calls Try.prog 62 #[.pointer (some ⟨b, 0, none⟩)] w fun e w' => e = .returned (.func (.func 86) #[] #[.pointer (some ⟨w.heap.size, 0, none⟩)]) ∧ w' = w.alloc (.cells #[.pointer (some ⟨b, 0, none⟩)] 90 (0, 0)) := by
  go_enter Try.func62, Try.ntmps62
  go_wp2
  go_ret
  exact ⟨rfl, rfl⟩
end Go.Proofs.Yteigcddmbpfahaa.Cn
