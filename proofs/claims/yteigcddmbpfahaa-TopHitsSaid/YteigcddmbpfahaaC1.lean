/- Contracts of package count: bets, how they go on, the verdict. -/
import Derived.Test.YteigcddmbpfahaaProg
import Derived.WalkKit
import Derived.Lib.Hide
import Derived.Deep.QuietTactic
import Derived.BigQuiet
import Derived.KernelRfl
import Derived.Test.YteigcddmbpfahaaWz

namespace Go.Proofs.Yteigcddmbpfahaa.Cn
open Go.RowKit Go.Proofs.YteigcddmbpfahaaW.PrintWords Go.Proofs.YteigcddmbpfahaaW.PrintLast Go.Proofs.YteigcddmbpfahaaW.PrintMore
attribute [local go_sem] max2_int min2_int

def withinB (n low high : Int) : Bool := decide (low ≤ n) && decide (n ≤ high)

theorem within_calls (n low high : Int) (w : World) :
    Calls Try.prog 33 #[.int .i64 n, .int .i64 low, .int .i64 high] w fun e w' => e = .returned (.bool (withinB n low high)) ∧ w = w' := by
  by_cases h : low ≤ n
  · go_enter Try.func33, Try.ntmps33
    go_wp2
    go_ret
    exact ⟨by simp [withinB, h], rfl⟩
  · go_enter Try.func33, Try.ntmps33
    go_wp2
    go_ret
    exact ⟨by rw [withinB, decide_eq_false (show ¬ low ≤ n by omega)]; rfl, rfl⟩

structure BetAt (w : World) (b o : Nat) (D n h k c : Int) : Prop where
  h0 : w.cell? ⟨b, o, none⟩ = some (.int .i64 D)
  h1 : w.cell? ⟨b, o + 1, none⟩ = some (.int .i64 n)
  h2 : w.cell? ⟨b, o + 2, none⟩ = some (.int .i64 h)
  h3 : w.cell? ⟨b, o + 3, none⟩ = some (.int .i64 k)
  h4 : w.cell? ⟨b, o + 4, none⟩ = some (.int .i64 c)

def hitV (D n h k c : Int) : Int := if k = 0 then 1000000000000 else if k = D then c else min 1000000000000 (c * (h + 1) * D / ((n + 2) * k))
def missV (D n h k c : Int) : Int := if k = 0 then c else if k = D then 1000000000000 else min 1000000000000 (c * (n - h + 1) * D / ((n + 2) * (D - k)))

structure Fit (D n h k c : Int) : Prop where
  D2 : 2 ≤ D
  D3 : D ≤ 1000
  h0 : 0 ≤ h
  hn : h ≤ n
  n4 : n ≤ 4000
  k0 : 0 ≤ k
  kD : k ≤ D
  c0 : 0 ≤ c
  c1 : c ≤ 1000000000000

theorem mul_bd {a b A B : Int} (a0 : 0 ≤ a) (aA : a ≤ A) (b0 : 0 ≤ b) (bB : b ≤ B) : 0 ≤ a * b ∧ a * b ≤ A * B :=
  ⟨Int.mul_nonneg a0 b0, Int.mul_le_mul aA bB b0 (by omega)⟩

theorem step_facts {D n h k c : Int} (D2 : 2 ≤ D) (D3 : D ≤ 1000) (h0 : 0 ≤ h) (hn : h ≤ n) (n4 : n ≤ 4000) (k1 : 1 ≤ k) (kD : k ≤ D) (c0 : 0 ≤ c) (c1 : c ≤ 1000000000000) :
    0 ≤ c * (h + 1) ∧ c * (h + 1) ≤ 4001000000000000 ∧ 0 ≤ c * (h + 1) * D ∧ c * (h + 1) * D ≤ 4001000000000000000 ∧ 1 ≤ (n + 2) * k ∧ (n + 2) * k ≤ 4002000 := by
  have m1 := mul_bd (B := 4001) c0 c1 (show 0 ≤ h + 1 by omega) (by omega)
  have m2 := mul_bd (B := 1000) m1.1 m1.2 (show 0 ≤ D by omega) (by omega)
  have m3 := mul_bd (A := 4002) (B := 1000) (show 0 ≤ n + 2 by omega) (by omega) (show 0 ≤ k by omega) (by omega)
  have m4 : 0 < (n + 2) * k := Int.mul_pos (by omega) (by omega)
  exact ⟨m1.1, by omega, m2.1, by omega, by omega, by omega⟩

theorem ret_int {k : IntKind} {a b : Int} (h : a = b) : Ending.returned (.int k a) = .returned (.int k b) := by rw [h]

set_option maxHeartbeats 1000000 in
theorem hit_calls (b o : Nat) (D n h k c : Int) (w : World) (hb : BetAt w b o D n h k c) (hf : Fit D n h k c) :
    Calls Try.prog 92 #[.pointer (some ⟨b, o, none⟩)] w fun e w' => e = .returned (.int .i64 (hitV D n h k c)) ∧ ∃ m, w' = w.drewN m := by
  obtain ⟨h0, h1, h2, h3, h4⟩ := hb
  by_cases k0 : k = 0
  · subst k0
    clear hf
    go_enter Try.func92, Try.ntmps92
    go_wp2
    go_ret
    exact ⟨by simp [hitV], 0, rfl⟩
  · have k0b : (k == 0) = false := by simpa using k0
    by_cases k1 : k = D
    · subst k1
      clear hf
      go_enter Try.func92, Try.ntmps92
      go_wp2
      go_ret
      exact ⟨by simp [hitV, k0], 0, rfl⟩
    · have k1b : (k == D) = false := by simpa using k1
      obtain ⟨f1, f2, f3, f4, f5, f6⟩ := step_facts hf.D2 hf.D3 hf.h0 hf.hn hf.n4 (by have := hf.k0; omega) hf.kD hf.c0 hf.c1
      obtain ⟨D2, D3, q0, qn, n4, p0, pD, c0, c1⟩ := hf
      have e1 : hitV D n h k c = min 1000000000000 (c * (h + 1) * D / ((n + 2) * k)) := by rw [hitV, if_neg k0, if_neg k1]
      have E1 := Lib.hid e1
      clear k0 k1 e1
      go_enter Try.func92, Try.ntmps92
      go_wp2
      go_quiet (fail)
      go_wp2
      all_goals
        go_ret
        exact ⟨by rw [E1.out]; exact ret_int (by omega), _, rfl⟩
set_option maxHeartbeats 1000000 in
theorem miss_calls (b o : Nat) (D n h k c : Int) (w : World) (hb : BetAt w b o D n h k c) (hf : Fit D n h k c) :
    Calls Try.prog 91 #[.pointer (some ⟨b, o, none⟩)] w fun e w' => e = .returned (.int .i64 (missV D n h k c)) ∧ ∃ m, w' = w.drewN m := by
  obtain ⟨h0, h1, h2, h3, h4⟩ := hb
  by_cases k0 : k = 0
  · subst k0
    clear hf
    go_enter Try.func91, Try.ntmps91
    go_wp2
    go_ret
    exact ⟨by simp [missV], 0, rfl⟩
  · have k0b : (k == 0) = false := by simpa using k0
    by_cases k1 : k = D
    · subst k1
      clear hf
      go_enter Try.func91, Try.ntmps91
      go_wp2
      go_ret
      exact ⟨by simp [missV, k0], 0, rfl⟩
    · have k1b : (k == D) = false := by simpa using k1
      obtain ⟨f1, f2, f3, f4, f5, f6⟩ := step_facts (n := n) (h := n - h) (k := D - k) hf.D2 hf.D3 (by have := hf.hn; omega) (by have := hf.h0; omega) hf.n4 (by have := hf.kD; omega) (by have := hf.k0; omega) hf.c0 hf.c1
      obtain ⟨D2, D3, q0, qn, n4, p0, pD, c0, c1⟩ := hf
      have e1 : missV D n h k c = min 1000000000000 (c * (n - h + 1) * D / ((n + 2) * (D - k))) := by rw [missV, if_neg k0, if_neg k1]
      have E1 := Lib.hid e1
      clear k0 k1 e1
      go_enter Try.func91, Try.ntmps91
      go_wp2
      go_quiet (fail)
      go_wp2
      all_goals
        go_ret
        exact ⟨by rw [E1.out]; exact ret_int (by omega), _, rfl⟩
end Go.Proofs.Yteigcddmbpfahaa.Cn

namespace Go.Proofs.Yteigcddmbpfahaa.Cn
open Go.RowKit Go.Proofs.YteigcddmbpfahaaW.PrintWords Go.Proofs.YteigcddmbpfahaaW.PrintLast Go.Proofs.YteigcddmbpfahaaW.PrintMore
structure Keep (S : List Nat) (w w' : World) : Prop where
  os : w'.os = w.os
  tape : w'.tape = w.tape
  output : w'.output = w.output
  size : w.heap.size ≤ w'.heap.size
  block : ∀ r, r < w.heap.size → r ∉ S → w'.heap[r]? = w.heap[r]?

theorem Keep.refl (S : List Nat) (w : World) : Keep S w w := ⟨rfl, rfl, rfl, Nat.le_refl _, fun _ _ _ => rfl⟩
theorem Keep.trans {S : List Nat} {a b c : World} (h : Keep S a b) (k : Keep S b c) : Keep S a c :=
  ⟨k.os.trans h.os, k.tape.trans h.tape, k.output.trans h.output, Nat.le_trans h.size k.size,
   fun i hi hS => (k.block i (Nat.lt_of_lt_of_le hi h.size) hS).trans (h.block i hi hS)⟩
theorem Keep.mono {S S' : List Nat} {a b : World} (h : Keep S a b) (hs : ∀ r ∈ S, r < a.heap.size → r ∈ S') : Keep S' a b :=
  ⟨h.os, h.tape, h.output, h.size, fun i hi hS => h.block i hi (fun hm => hS (hs i hm hi))⟩
theorem Keep.drewN (S : List Nat) (w : World) (m : Nat) : Keep S w (w.drewN m) := ⟨rfl, rfl, rfl, Nat.le_refl _, fun _ _ _ => rfl⟩
theorem Keep.drew (S : List Nat) (w : World) : Keep S w w.drew := ⟨rfl, rfl, rfl, Nat.le_refl _, fun _ _ _ => rfl⟩
theorem Keep.setCell {S : List Nat} {w : World} {p : Addr} (hp : p.block ∈ S) (u : Value) : Keep S w (w.setCell p u) :=
  ⟨rfl, rfl, rfl, by simp, fun k _ hS => Below.heap_setCell _ _ _ _ (fun e => hS (e ▸ hp))⟩
theorem Keep.alloc (S : List Nat) (w : World) (o : Obj) : Keep S w (w.alloc o) :=
  ⟨rfl, rfl, rfl, by simp, fun k hk _ => Below.heap_alloc _ _ _ hk⟩
theorem Keep.below {S : List Nat} {w w' : World} {B : Nat} (h : Keep S w w') (hB : B ≤ w.heap.size) (hS : ∀ r ∈ S, B ≤ r) : Below B w w' :=
  ⟨h.os, h.tape, h.output, h.size, fun k hk => h.block k (Nat.lt_of_lt_of_le hk hB) (fun hm => by have := hS k hm; omega)⟩
theorem Keep.of_below {w w' : World} {S : List Nat} (h : Below w.heap.size w w') : Keep S w w' :=
  ⟨h.os, h.tape, h.output, h.size, fun k hk _ => h.block k hk⟩

def Blk (w : World) (b : Nat) (cs : Array Value) (t : TypeId) : Prop := w.heap[b]? = some (.cells cs t (0, 0))
theorem Blk.cell {w : World} {b : Nat} {cs : Array Value} {t : TypeId} (h : Blk w b cs t) (o : Nat) : w.cell? ⟨b, o, none⟩ = cs[o]? := by
  unfold Blk at h; simp [World.cell?, h]
theorem Blk.free {w : World} {b : Nat} {cs : Array Value} {t : TypeId} (h : Blk w b cs t) (o : Nat) : w.frozen? ⟨b, o, none⟩ = false := by
  unfold Blk at h; simp [World.frozen?, h]
theorem Blk.lt {w : World} {b : Nat} {cs : Array Value} {t : TypeId} (h : Blk w b cs t) : b < w.heap.size := lt_of_block h
theorem Blk.drewN {w : World} {b : Nat} {cs : Array Value} {t : TypeId} (h : Blk w b cs t) (m : Nat) : Blk (w.drewN m) b cs t := h
theorem Blk.drew {w : World} {b : Nat} {cs : Array Value} {t : TypeId} (h : Blk w b cs t) : Blk w.drew b cs t := h
theorem Blk.setCell {w : World} {b : Nat} {cs : Array Value} {t : TypeId} (h : Blk w b cs t) (o : Nat) (u : Value) : Blk (w.setCell ⟨b, o, none⟩ u) b (cs.setIfInBounds o u) t := by
  have hlt := lt_of_block h
  have h' : w.heap[b] = .cells cs t (0, 0) := by unfold Blk at h; simpa [Array.getElem?_eq_getElem hlt] using h
  show (w.heap.modify b _)[b]? = _
  rw [Array.getElem?_eq_getElem (by simpa using hlt), Array.getElem_modify_self, h']
  rfl
theorem Blk.other {w : World} {b : Nat} {cs : Array Value} {t : TypeId} (h : Blk w b cs t) {p : Addr} (hp : b ≠ p.block) (u : Value) : Blk (w.setCell p u) b cs t :=
  (Below.heap_setCell _ _ _ _ hp).trans h
theorem Blk.alloc {w : World} {b : Nat} {cs : Array Value} {t : TypeId} (h : Blk w b cs t) (o : Obj) : Blk (w.alloc o) b cs t :=
  (Below.heap_alloc _ _ _ h.lt).trans h
theorem Blk.keep {w w' : World} {b : Nat} {cs : Array Value} {t : TypeId} {S : List Nat} (h : Blk w b cs t) (k : Keep S w w') (hS : b ∉ S) : Blk w' b cs t :=
  (k.block b h.lt hS).trans h
theorem Blk.below {w w' : World} {b B : Nat} {cs : Array Value} {t : TypeId} (h : Blk w b cs t) (k : Below B w w') (hB : b < B) : Blk w' b cs t :=
  (k.block b hB).trans h
theorem Blk.new (w : World) (cs : Array Value) (t : TypeId) : Blk (w.alloc (.cells cs t (0, 0))) w.heap.size cs t := by
  unfold Blk World.alloc; simp

structure BetIn (ls : Array Value) (o : Nat) (D n h k c : Int) : Prop where
  h0 : ls[o]? = some (.int .i64 D)
  h1 : ls[o + 1]? = some (.int .i64 n)
  h2 : ls[o + 2]? = some (.int .i64 h)
  h3 : ls[o + 3]? = some (.int .i64 k)
  h4 : ls[o + 4]? = some (.int .i64 c)
theorem BetIn.at {w : World} {b : Nat} {ls : Array Value} {t : TypeId} {o : Nat} {D n h k c : Int} (hi : BetIn ls o D n h k c) (hb : Blk w b ls t) : BetAt w b o D n h k c :=
  ⟨(hb.cell _).trans hi.h0, (hb.cell _).trans hi.h1, (hb.cell _).trans hi.h2, (hb.cell _).trans hi.h3, (hb.cell _).trans hi.h4⟩

def b2i (b : Bool) : Int := if b then 1 else 0
def moveV (hit : Bool) (D n h k c : Int) : Int := if hit then hitV D n h k c else missV D n h k c

def betSet (ls : Array Value) (o : Nat) (hit : Bool) (n h c : Int) : Array Value :=
  let l2 := (ls.setIfInBounds (o + 4) (.int .i64 c)).setIfInBounds (o + 1) (.int .i64 (n + 1))
  if hit then l2.setIfInBounds (o + 2) (.int .i64 (h + 1)) else l2

set_option maxHeartbeats 1000000 in
theorem betNext_calls (b o : Nat) (ls : Array Value) (t : TypeId) (hit : Bool) (D n h k c : Int) (w : World) (hB : Blk w b ls t) (hi : BetIn ls o D n h k c) (hf : Fit D n h k c) :
    Calls Try.prog 85 #[.pointer (some ⟨b, o, none⟩), .bool hit] w fun e w' => e = .returned (.tuple #[]) ∧ Keep [b] w w' ∧ Blk w' b (betSet ls o hit n h (moveV hit D n h k c)) t := by
  have ha := hi.at hB
  have fr := fun q => hB.free q
  have HB := Lib.hid hB
  have HF := Lib.hid hf
  obtain ⟨D2, D3, q0, qn, n4, p0, pD, c0, c1⟩ := hf
  clear hB
  have HA := Lib.hid ha
  obtain ⟨h0, h1, h2, h3, h4⟩ := ha
  have x1 : n + 1 ≤ 4001 := by omega
  cases hit
  · go_enter Try.func85, Try.ntmps85
    go_wp2_with (go_at_call 91; refine (miss_calls b o D n h k c _ HA.out HF.out).mono ?_; rintro e w' ⟨rfl, m, rfl⟩)
    go_end0
    exact ⟨rfl, ((Keep.drewN _ _ _).trans (Keep.setCell (by simp) _)).trans (Keep.setCell (by simp) _), ((HB.out.drewN m).setCell _ _).setCell _ _⟩
  · go_enter Try.func85, Try.ntmps85
    go_wp2_with (go_at_call 92; refine (hit_calls b o D n h k c _ HA.out HF.out).mono ?_; rintro e w' ⟨rfl, m, rfl⟩)
    go_end0
    exact ⟨rfl, (((Keep.drewN _ _ _).trans (Keep.setCell (by simp) _)).trans (Keep.setCell (by simp) _)).trans (Keep.setCell (by simp) _), (((HB.out.drewN m).setCell _ _).setCell _ _).setCell _ _⟩
end Go.Proofs.Yteigcddmbpfahaa.Cn

namespace Go.Proofs.Yteigcddmbpfahaa.Cn
open Go.RowKit Go.Proofs.YteigcddmbpfahaaW.PrintWords Go.Proofs.YteigcddmbpfahaaW.PrintLast Go.Proofs.YteigcddmbpfahaaW.PrintMore
structure KS where
  n : Int
  h : Int
  c : Int
  out : Bool
  at_ : Int

def KS.step (D A : Int) (hit : Bool) (k : Nat) (s : KS) : KS :=
  if s.out then s else
  { n := s.n + 1, h := s.h + b2i hit, c := moveV hit D s.n s.h k s.c, out := decide (A * 1048576 ≤ moveV hit D s.n s.h k s.c),
    at_ := if A * 1048576 ≤ moveV hit D s.n s.h k s.c then s.n + 1 else s.at_ }

def upd (S : Nat → KS) (k : Nat) (s : KS) : Nat → KS := fun j => if j = k then s else S j

structure BetsB (cs : Array Value) (L o cap D : Nat) (A kept : Int) (S : Nat → KS) : Prop where
  p : cs[0]? = some (.int .i64 D)
  lv : cs[1]? = some (.int .i64 A)
  l : cs[2]? = some (.slice (some ⟨L, o, none⟩) (D + 1) cap)
  out : ∀ k, k ≤ D → cs[3 + k]? = some (.bool (S k).out)
  kept : cs[1004]? = some (.int .i64 kept)
  at_ : ∀ k, k ≤ D → cs[1005 + k]? = some (.int .i64 (S k).at_)

def BetsL (ls : Array Value) (o D : Nat) (S : Nat → KS) : Prop := ∀ k : Nat, k ≤ D → BetIn ls (o + k * 5) D (S k).n (S k).h k (S k).c

theorem get_set_same {xs : Array Value} {i : Nat} {u v : Value} (h : xs[i]? = some u) : (xs.setIfInBounds i v)[i]? = some v := by
  have : i < xs.size := (Array.getElem?_eq_some_iff.1 h).1
  simp [this]
theorem get_set_other {xs : Array Value} {i j : Nat} {v : Value} (h : i ≠ j) : (xs.setIfInBounds i v)[j]? = xs[j]? := by
  simp [h]

theorem betSet_in {ls : Array Value} {o : Nat} {D n h k c : Int} (hit : Bool) (c' : Int) (hi : BetIn ls o D n h k c) :
    BetIn (betSet ls o hit n h c') o D (n + 1) (h + b2i hit) k c' := by
  obtain ⟨h0, h1, h2, h3, h4⟩ := hi
  cases hit
  · refine ⟨?_, ?_, ?_, ?_, ?_⟩
    all_goals simp only [betSet, b2i, Bool.false_eq_true, ↓reduceIte, Int.add_zero]
    · rw [get_set_other (by omega), get_set_other (by omega)]; exact h0
    · exact get_set_same ((get_set_other (by omega)).trans h1)
    · rw [get_set_other (by omega), get_set_other (by omega)]; exact h2
    · rw [get_set_other (by omega), get_set_other (by omega)]; exact h3
    · rw [get_set_other (by omega)]; exact get_set_same h4
  · refine ⟨?_, ?_, ?_, ?_, ?_⟩
    all_goals simp only [betSet, b2i, ↓reduceIte]
    · rw [get_set_other (by omega), get_set_other (by omega), get_set_other (by omega)]; exact h0
    · rw [get_set_other (by omega)]; exact get_set_same ((get_set_other (by omega)).trans h1)
    · exact get_set_same ((get_set_other (by omega)).trans ((get_set_other (by omega)).trans h2))
    · rw [get_set_other (by omega), get_set_other (by omega), get_set_other (by omega)]; exact h3
    · rw [get_set_other (by omega), get_set_other (by omega)]; exact get_set_same h4
theorem betSet_get {ls : Array Value} {o j : Nat} {n h c : Int} (hit : Bool) (hj : j < o + 1 ∨ o + 5 ≤ j) : (betSet ls o hit n h c)[j]? = ls[j]? := by
  cases hit <;> simp only [betSet, Bool.false_eq_true, ↓reduceIte]
  · rw [get_set_other (by omega), get_set_other (by omega)]
  · rw [get_set_other (by omega), get_set_other (by omega), get_set_other (by omega)]
theorem betSet_other {ls : Array Value} {o o' : Nat} {D n h k c n' h' c' : Int} (hit : Bool) (hi : BetIn ls o' D n h k c) (hd : o' + 5 ≤ o ∨ o + 5 ≤ o') :
    BetIn (betSet ls o hit n' h' c') o' D n h k c := by
  obtain ⟨h0, h1, h2, h3, h4⟩ := hi
  exact ⟨(betSet_get hit (by omega)).trans h0, (betSet_get hit (by omega)).trans h1, (betSet_get hit (by omega)).trans h2, (betSet_get hit (by omega)).trans h3, (betSet_get hit (by omega)).trans h4⟩

theorem upd_same (S : Nat → KS) (k : Nat) (s : KS) : upd S k s k = s := by simp [upd]
theorem upd_other (S : Nat → KS) {k j : Nat} (s : KS) (h : j ≠ k) : upd S k s j = S j := by simp [upd, h]

theorem betsL_step {ls : Array Value} {o D k : Nat} {S : Nat → KS} {A : Int} (hit : Bool) (hL : BetsL ls o D S) (hk : k ≤ D) (ho : (S k).out = false) :
    BetsL (betSet ls (o + k * 5) hit (S k).n (S k).h (moveV hit D (S k).n (S k).h k (S k).c)) o D (upd S k (KS.step D A hit k (S k))) := by
  intro j hj
  by_cases e : j = k
  · subst e
    rw [upd_same]
    simp only [KS.step, ho, Bool.false_eq_true, ↓reduceIte]
    exact betSet_in hit _ (hL j hj)
  · rw [upd_other _ _ e]
    exact betSet_other hit (hL j hj) (by omega)

theorem betsB_still {cs : Array Value} {L o cap D k : Nat} {A kept : Int} {S : Nat → KS} {hit : Bool} (h : BetsB cs L o cap D A kept S) (ho : (S k).out = false)
    (hx : ¬ A * 1048576 ≤ moveV hit D (S k).n (S k).h k (S k).c) : BetsB cs L o cap D A kept (upd S k (KS.step D A hit k (S k))) := by
  have e1 : (KS.step D A hit k (S k)).out = (S k).out := by simp only [KS.step, ho, Bool.false_eq_true, ↓reduceIte, decide_eq_false hx]
  have e2 : (KS.step D A hit k (S k)).at_ = (S k).at_ := by simp only [KS.step, ho, Bool.false_eq_true, ↓reduceIte, if_neg hx]
  refine ⟨h.p, h.lv, h.l, fun j hj => ?_, h.kept, fun j hj => ?_⟩
  · by_cases e : j = k
    · subst e; rw [upd_same, e1]; exact h.out j hj
    · rw [upd_other _ _ e]; exact h.out j hj
  · by_cases e : j = k
    · subst e; rw [upd_same, e2]; exact h.at_ j hj
    · rw [upd_other _ _ e]; exact h.at_ j hj

theorem betsB_out {cs : Array Value} {L o cap D k : Nat} {A kept : Int} {S : Nat → KS} {hit : Bool} (h : BetsB cs L o cap D A kept S) (ho : (S k).out = false) (hk : k ≤ D) (hD : D ≤ 1000)
    (hx : A * 1048576 ≤ moveV hit D (S k).n (S k).h k (S k).c) :
    BetsB (((cs.setIfInBounds (3 + k) (.bool true)).setIfInBounds (1005 + k) (.int .i64 ((S k).n + 1))).setIfInBounds 1004 (.int .i64 (kept - 1))) L o cap D A (kept - 1) (upd S k (KS.step D A hit k (S k))) := by
  have e1 : (KS.step D A hit k (S k)).out = true := by simp only [KS.step, ho, Bool.false_eq_true, ↓reduceIte, decide_eq_true hx]
  have e2 : (KS.step D A hit k (S k)).at_ = (S k).n + 1 := by simp only [KS.step, ho, Bool.false_eq_true, ↓reduceIte, if_pos hx]
  refine ⟨?_, ?_, ?_, fun j hj => ?_, ?_, fun j hj => ?_⟩
  · rw [get_set_other (by omega), get_set_other (by omega), get_set_other (by omega)]; exact h.p
  · rw [get_set_other (by omega), get_set_other (by omega), get_set_other (by omega)]; exact h.lv
  · rw [get_set_other (by omega), get_set_other (by omega), get_set_other (by omega)]; exact h.l
  · by_cases e : j = k
    · subst e; rw [upd_same, e1, get_set_other (by omega), get_set_other (by omega)]; exact get_set_same (h.out j hj)
    · rw [upd_other _ _ e, get_set_other (by omega), get_set_other (by omega), get_set_other (by omega)]; exact h.out j hj
  · exact get_set_same ((get_set_other (by omega)).trans ((get_set_other (by omega)).trans h.kept))
  · by_cases e : j = k
    · subst e; rw [upd_same, e2, get_set_other (by omega)]; exact get_set_same ((get_set_other (by omega)).trans (h.at_ j hj))
    · rw [upd_other _ _ e, get_set_other (by omega), get_set_other (by omega), get_set_other (by omega)]; exact h.at_ j hj

structure BetsAt (w : World) (B L o cap D : Nat) (A kept : Int) (S : Nat → KS) : Prop where
  ne : B ≠ L
  ex : ∃ cs ls, Blk w B cs 116 ∧ Blk w L ls 120 ∧ BetsB cs L o cap D A kept S ∧ BetsL ls o D S

def lost (s s' : KS) : Int := if s.out = s'.out then 0 else 1

set_option maxHeartbeats 1000000 in
theorem against_calls (b1 b2 B L o cap D k : Nat) (A kept : Int) (S : Nat → KS) (hit : Bool) (w : World)
    (hb1 : Blk w b1 #[.pointer (some ⟨B, 0, none⟩)] 86) (hb2 : Blk w b2 #[.bool hit] 4)
    (hS : BetsAt w B L o cap D A kept S) (h1B : b1 ≠ B) (h1L : b1 ≠ L)
    (hk : k ≤ D) (hf : Fit D (S k).n (S k).h k (S k).c) (ho : (S k).out = false) (hA : 2 ≤ A) (hA2 : A ≤ 900000) (hk1 : 1 ≤ kept) (hk2 : kept ≤ 1001) :
    Calls Try.prog 84 #[.int .i64 k, .pointer (some ⟨b1, 0, none⟩), .pointer (some ⟨b2, 0, none⟩)] w fun e w' => e = .returned (.tuple #[]) ∧ Keep [B, L] w w' ∧
      BetsAt w' B L o cap D A (kept - lost (S k) (KS.step D A hit k (S k))) (upd S k (KS.step D A hit k (S k))) := by
  obtain ⟨hBL, cs, ls, hB, hL, iB, iL⟩ := hS
  have hDD : D ≤ 1000 := by have := hf.D3; omega
  have c1 := hb1.cell 0
  have c2 := hb2.cell 0
  have cB2 := (hB.cell 2).trans iB.l
  simp at c1 c2
  have bd : (0 : Int) ≤ (k : Int) ∧ (k : Int) < ((D + 1 : Nat) : Int) := ⟨by omega, by omega⟩
  have bd2 : (0 : Int) ≤ (k : Int) ∧ (k : Int) < 1001 := ⟨by omega, by omega⟩
  have HF := Lib.hid hf
  have HiB := Lib.hid iB
  have HiL := Lib.hid iL
  have HB := Lib.hid hB
  have HL := Lib.hid hL
  have H1 := Lib.hid hb1
  have H2 := Lib.hid hb2
  have HO := Lib.hid ho
  clear hf iB iL hB hL hb1 hb2 ho
  go_enter Try.func84, Try.ntmps84
  go_wp2_with fail
  refine (betNext_calls L (o + k * 5) ls _ hit D (S k).n (S k).h k (S k).c _ HL.out (HiL.out k hk) HF.out).mono ?_
  rintro e w1 ⟨rfl, k1, hL1⟩
  have K1 := Lib.hid k1
  have HL1 := Lib.hid hL1
  have c1' := (H1.out.keep k1 (by simpa using h1L)).cell 0
  have hB1 := HB.out.keep k1 (by simpa using hBL)
  have cBo := (hB1.cell (3 + k)).trans (HiB.out.out k hk)
  have cBl := (hB1.cell 1).trans HiB.out.lv
  have cL := (betSet_in hit (moveV hit D (S k).n (S k).h k (S k).c) (HiL.out k hk)).at hL1
  have cLc := cL.h4
  have cLn := cL.h1
  have cBa := (hB1.cell (1005 + k)).trans (HiB.out.at_ k hk)
  have fB1 := hB1.free (3 + k)
  have fB2 := hB1.free (1005 + k)
  have HB1 := Lib.hid hB1
  have HC1 := Lib.hid (H1.out.keep k1 (by simpa using h1L))
  clear k1 hL1 hB1 c1 c2 cB2 cL
  simp at c1'
  rw [HO.out] at cBo
  rcases Classical.em (A * 1048576 ≤ moveV hit D (S k).n (S k).h k (S k).c) with hx | hx
  · have hxb : decide (A * 1048576 ≤ moveV hit D (S k).n (S k).h k (S k).c) = true := decide_eq_true hx
    have HX := Lib.hid hx
    clear hx
    go_wp2_with fail
    go_quiet (fail)
    go_wp2_with fail
    go_region
    generalize hw2 : (((w1.drewN (nq + 1)).setCell { block := B, off := 3 + k } (Value.bool true)).setCell { block := B, off := 1005 + k } (Value.int IntKind.i64 ((S k).n + 1))) = w2
    have hB2 : Blk w2 B ((cs.setIfInBounds (3 + k) (.bool true)).setIfInBounds (1005 + k) (.int .i64 ((S k).n + 1))) 116 := by
      rw [← hw2]; exact ((HB1.out.drewN _).setCell _ _).setCell _ _
    have k2 : Keep [B, L] w w2 := by
      rw [← hw2]; exact (((K1.out.mono (by simp)).trans (Keep.drewN _ _ _)).trans (Keep.setCell (by simp) _)).trans (Keep.setCell (by simp) _)
    have cBk : w2.cell? ⟨B, 1004, none⟩ = some (.int .i64 kept) := (hB2.cell 1004).trans ((get_set_other (by omega)).trans ((get_set_other (by omega)).trans HiB.out.kept))
    have c12 : w2.cell? ⟨b1, 0, none⟩ = some (.pointer (some ⟨B, 0, none⟩)) := by
      rw [← hw2]; exact (((HC1.out.drewN _).other h1B _).other h1B _).cell 0
    have fBk := hB2.free 1004
    have HL2 : Hid (Blk w2 L (betSet ls (o + k * 5) hit (S k).n (S k).h (moveV hit (↑D) (S k).n (S k).h (↑k) (S k).c)) 120) := Lib.hid (by rw [← hw2]; exact ((HL1.out.drewN _).other (p := ⟨B, 3 + k, none⟩) hBL.symm _).other (p := ⟨B, 1005 + k, none⟩) hBL.symm _)
    have HB2 := Lib.hid hB2
    have K2 := Lib.hid k2
    clear hw2 k2 hB2 cBo cBl cLc cLn cBa fB1 fB2 c1' hxb
    go_wp2
    go_end0
    refine ⟨rfl, K2.out.trans (Keep.setCell (by simp) _), hBL, _, _, HB2.out.setCell _ _, HL2.out.other (p := ⟨B, 1004, none⟩) hBL.symm _, ?_, betsL_step hit HiL.out hk HO.out⟩
    have e : lost (S k) (KS.step D A hit k (S k)) = 1 := by
      simp only [lost, KS.step, HO.out, Bool.false_eq_true, ↓reduceIte, decide_eq_true HX.out]
    rw [e]
    exact betsB_out HiB.out HO.out hk hDD HX.out
  · have hxb : decide (A * 1048576 ≤ moveV hit D (S k).n (S k).h k (S k).c) = false := decide_eq_false hx
    have HX := Lib.hid hx
    clear hx
    go_wp2_with fail
    go_quiet (fail)
    go_wp2
    go_end0
    refine ⟨rfl, (K1.out.mono (by simp)).trans (Keep.drewN _ _ _), hBL, _, _, HB1.out.drewN _, HL1.out.drewN _, ?_, betsL_step hit HiL.out hk HO.out⟩
    have e : lost (S k) (KS.step D A hit k (S k)) = 0 := by
      simp only [lost, KS.step, HO.out, Bool.false_eq_true, ↓reduceIte, decide_eq_false (Int.not_le.2 HX.out)]
    rw [e, Int.sub_zero]
    exact betsB_still HiB.out HO.out (Int.not_le.2 HX.out)
end Go.Proofs.Yteigcddmbpfahaa.Cn

namespace Go.Proofs.Yteigcddmbpfahaa.Cn
open Go.RowKit Go.Proofs.YteigcddmbpfahaaW.PrintWords Go.Proofs.YteigcddmbpfahaaW.PrintLast Go.Proofs.YteigcddmbpfahaaW.PrintMore
theorem addr0_add (g n : Nat) : ({ block := g, off := 0, spot := none } : Addr).add n = ⟨g, n, none⟩ := by
  unfold Addr.add
  split
  · rename_i h; subst h; rfl
  · simp

def cnt : Nat → (Nat → KS) → Int
  | 0, _ => 0
  | i + 1, S => cnt i S + if (S i).out then 0 else 1
theorem cnt_bd (S : Nat → KS) : ∀ i, 0 ≤ cnt i S ∧ cnt i S ≤ i
  | 0 => by simp [cnt]
  | i + 1 => by have := cnt_bd S i; simp only [cnt]; split <;> omega
theorem cnt_pos {S : Nat → KS} {k : Nat} (ho : (S k).out = false) : ∀ i, k < i → 1 ≤ cnt i S
  | 0, h => by omega
  | i + 1, h => by
    simp only [cnt]
    by_cases e : k = i
    · subst e; rw [if_neg (by simp [ho])]; have := cnt_bd S k; omega
    · have := cnt_pos ho i (by omega); split <;> omega
theorem cnt_congr {S S' : Nat → KS} : ∀ i, (∀ j, j < i → (S j).out = (S' j).out) → cnt i S = cnt i S'
  | 0, _ => rfl
  | i + 1, h => by simp only [cnt]; rw [cnt_congr i (fun j hj => h j (by omega)), h i (by omega)]
theorem cnt_upd {S : Nat → KS} {k : Nat} (s : KS) (ho : (S k).out = false) : ∀ i, k < i → cnt i (upd S k s) = cnt i S - lost (S k) s
  | 0, h => by omega
  | i + 1, h => by
    simp only [cnt]
    by_cases e : k = i
    · subst e
      rw [upd_same, cnt_congr k (S := upd S k s) (S' := S) (fun j hj => by rw [upd_other _ _ (by omega)]), ho]
      simp only [lost, ho, Bool.false_eq_true, ↓reduceIte]
      cases s.out <;> simp <;> omega
    · rw [cnt_upd s ho i (by omega), upd_other _ _ (by omega)]; omega

def stepAll (D A : Int) (hit : Bool) (S : Nat → KS) : Nat → KS := fun k => KS.step D A hit k (S k)
def part (i : Nat) (S S' : Nat → KS) : Nat → KS := fun j => if j < i then S' j else S j
theorem part_zero (S S' : Nat → KS) : part 0 S S' = S := by funext j; simp [part]
theorem part_at (i : Nat) (S S' : Nat → KS) : part i S S' i = S i := by simp [part]
theorem part_step (i : Nat) (S S' : Nat → KS) : upd (part i S S') i (S' i) = part (i + 1) S S' := by
  funext j; simp only [upd, part]
  by_cases e : j = i
  · subst e; simp
  · by_cases l : j < i
    · rw [if_neg e, if_pos l, if_pos (by omega)]
    · rw [if_neg e, if_neg l, if_neg (by omega)]
theorem part_same {i : Nat} {S S' : Nat → KS} (h : S' i = S i) : part (i + 1) S S' = part i S S' := by
  rw [← part_step, h]; funext j; simp only [upd, part]
  by_cases e : j = i
  · subst e; simp
  · rw [if_neg e]
theorem BetsAt.congr {D : Nat} {w : World} {B L o cap : Nat} {A kept : Int} {S S' : Nat → KS} (h : BetsAt w B L o cap D A kept S) (he : ∀ k, k ≤ D → S' k = S k) : BetsAt w B L o cap D A kept S' := by
  obtain ⟨ne, cs, ls, hB, hL, iB, iL⟩ := h
  exact ⟨ne, cs, ls, hB, hL, ⟨iB.p, iB.lv, iB.l, fun k hk => by rw [he k hk]; exact iB.out k hk, iB.kept, fun k hk => by rw [he k hk]; exact iB.at_ k hk⟩, fun k hk => by rw [he k hk]; exact iL k hk⟩
theorem BetsAt.keep {D : Nat} {w w' : World} {B L o cap : Nat} {A kept : Int} {S : Nat → KS} {T : List Nat} (h : BetsAt w B L o cap D A kept S) (k : Keep T w w') (hB : B ∉ T) (hL : L ∉ T) : BetsAt w' B L o cap D A kept S := by
  obtain ⟨ne, cs, ls, b, l, iB, iL⟩ := h
  exact ⟨ne, cs, ls, b.keep k hB, l.keep k hL, iB, iL⟩
theorem BetsAt.below {D : Nat} {w w' : World} {B L o cap n : Nat} {A kept : Int} {S : Nat → KS} (h : BetsAt w B L o cap D A kept S) (k : Below n w w') (hB : B < n) (hL : L < n) : BetsAt w' B L o cap D A kept S := by
  obtain ⟨ne, cs, ls, b, l, iB, iL⟩ := h
  exact ⟨ne, cs, ls, b.below k hB, l.below k hL, iB, iL⟩

theorem cnt_part {D : Nat} {S S' : Nat → KS} : cnt (D + 1) (part (D + 1) S S') = cnt (D + 1) S' :=
  cnt_congr _ (fun j hj => by simp [part, hj])
theorem step_out {D A : Int} {hit : Bool} {k : Nat} {s : KS} (h : s.out = true) : KS.step D A hit k s = s := by simp [KS.step, h]

set_option maxHeartbeats 1000000 in
theorem betsNext_calls (B L o cap D : Nat) (A : Int) (S : Nat → KS) (hit : Bool) (w : World)
    (hS : BetsAt w B L o cap D A (cnt (D + 1) S) S) (hD : D ≤ 1000) (hf : ∀ k : Nat, k ≤ D → (S k).out = false → Fit D (S k).n (S k).h k (S k).c)
    (hA : 2 ≤ A) (hA2 : A ≤ 900000) :
    Calls Try.prog 57 #[.pointer (some ⟨B, 0, none⟩), .bool hit] w fun e w' => e = .returned (.tuple #[]) ∧ Keep [B, L] w w' ∧
      BetsAt w' B L o cap D A (cnt (D + 1) (stepAll D A hit S)) (stepAll D A hit S) := by
  obtain ⟨hBL, cs, ls, hB, hL, iB, iL⟩ := hS
  have cB2 := (hB.cell 2).trans iB.l
  have lB := hB.lt
  have lL := hL.lt
  have HiB := Lib.hid iB
  have HiL := Lib.hid iL
  have HB := Lib.hid hB
  have HL := Lib.hid hL
  have HF := Lib.hid hf
  clear hf iB iL hB hL
  go_enter Try.func57, Try.ntmps57
  go_wp2_with fail
  have hz : ((w.alloc (.cells #[.pointer (some ⟨B, 0, none⟩)] 86)).alloc (.cells #[.bool hit] 4)).heap.size = w.heap.size + 2 := by simp
  have hb1 : Blk ((w.alloc (.cells #[.pointer (some ⟨B, 0, none⟩)] 86)).alloc (.cells #[.bool hit] 4)) w.heap.size #[.pointer (some ⟨B, 0, none⟩)] 86 := (Blk.new w _ _).alloc _
  have hb2 : Blk ((w.alloc (.cells #[.pointer (some ⟨B, 0, none⟩)] 86)).alloc (.cells #[.bool hit] 4)) (w.heap.size + 1) #[.bool hit] 4 := by
    have := Blk.new (w.alloc (.cells #[.pointer (some ⟨B, 0, none⟩)] 86)) #[.bool hit] 4
    rwa [World.size_alloc] at this
  have hS0 : BetsAt ((w.alloc (.cells #[.pointer (some ⟨B, 0, none⟩)] 86)).alloc (.cells #[.bool hit] 4)) B L o cap D A (cnt (D + 1) S) S :=
    ⟨hBL, cs, ls, (HB.out.alloc _).alloc _, (HL.out.alloc _).alloc _, HiB.out, HiL.out⟩
  have hk0 : Keep [B, L] w ((w.alloc (.cells #[.pointer (some ⟨B, 0, none⟩)] 86)).alloc (.cells #[.bool hit] 4)) := (Keep.alloc _ _ _).trans (Keep.alloc _ _ _)
  have HZ := Lib.hid hz
  have H1 := Lib.hid hb1
  have H2 := Lib.hid hb2
  have HS0 := Lib.hid hS0
  have HK0 := Lib.hid hk0
  clear hz hb1 hb2 hS0 hk0 cB2
  generalize ((w.alloc (.cells #[.pointer (some ⟨B, 0, none⟩)] 86)).alloc (.cells #[.bool hit] 4)) = w0 at *
  go_loopw [12] (fun i wr => ∃ k : Nat, k ≤ D + 1 ∧ i = .int .i64 k ∧ Hid (Keep [B, L] w0 wr) ∧ Hid (BetsAt wr B L o cap D A (cnt (D + 1) (part k S (stepAll D A hit S))) (part k S (stepAll D A hit S)))) (fun i _ => D + 1 - (intOf i).toNat)
  case atStart => exact ⟨0, by omega, rfl, Lib.hid (Keep.refl _ _), Lib.hid (by rw [part_zero]; exact HS0.out)⟩
  case round =>
    obtain ⟨k, hk, rfl, HKr, HSr⟩ := hrel
    by_cases hlt : k < D + 1
    · have hb1 := H1.out.keep HKr.out (by simp; omega)
      have hb2 := H2.out.keep HKr.out (by simp; omega)
      obtain ⟨_, cs', ls', hB', hL', iB', iL'⟩ := HSr.out
      have cb1 := hb1.cell 0
      simp at cb1
      have cBo := (hB'.cell (3 + k)).trans (iB'.out k (by omega))
      rw [part_at] at cBo
      have bd2 : (0 : Int) ≤ (k : Int) ∧ (k : Int) < 1001 := ⟨by omega, by omega⟩
      have Hb1 := Lib.hid hb1
      have Hb2 := Lib.hid hb2
      clear hb1 hb2 hB' hL' iB' iL'
      cases ho : (S k).out
      · rw [ho] at cBo
        have HO := Lib.hid ho
        clear ho
        go_wp2_with fail
        refine (against_calls w.heap.size (w.heap.size + 1) B L o cap D k A _ (part k S (stepAll D A hit S)) hit _ Hb1.out Hb2.out HSr.out (by omega) (by omega) (by omega) (by rw [part_at]; exact HF.out k (by omega) HO.out) (by rw [part_at]; exact HO.out) hA hA2 ?_ ?_).mono ?_
        · exact cnt_pos (k := k) (by rw [part_at]; exact HO.out) _ hlt
        · have := (cnt_bd (part k S (stepAll D A hit S)) (D + 1)).2; omega
        rintro e w2 ⟨rfl, k2, hS2⟩
        have hS3 : BetsAt w2 B L o cap D A (cnt (D + 1) (part (k + 1) S (stepAll D A hit S))) (part (k + 1) S (stepAll D A hit S)) := by
          rw [part_at] at hS2
          have e1 := part_step k S (stepAll D A hit S)
          have e2 := cnt_upd (S := part k S (stepAll D A hit S)) (k := k) (stepAll D A hit S k) (by rw [part_at]; exact HO.out) (D + 1) hlt
          rw [part_at, e1] at e2
          rw [e2]
          rw [← e1]
          exact hS2
        have HS3 := Lib.hid hS3
        have HK3 := Lib.hid (HKr.out.trans k2)
        clear hS2 hS3 k2
        go_wp2
        go_roundw
        case rel => exact ⟨k + 1, by omega, by go_num, HK3, HS3⟩
        case measure => simp [intOf]; omega
      · rw [ho] at cBo
        have HO := Lib.hid ho
        clear ho
        have e3 : part (k + 1) S (stepAll D A hit S) = part k S (stepAll D A hit S) := part_same (step_out HO.out)
        have E3 := Lib.hid e3
        clear e3
        go_wp2
        go_roundw
        case rel => exact ⟨k + 1, by omega, by go_num, HKr, by rw [E3.out]; exact HSr⟩
        case measure => simp [intOf]; omega
    · obtain rfl : k = D + 1 := by omega
      go_wp2
      go_end0
      refine ⟨rfl, HK0.out.trans HKr.out, ?_⟩
      have h := HSr.out
      rw [cnt_part] at h
      exact h.congr (fun k hk => by simp [part]; omega)
end Go.Proofs.Yteigcddmbpfahaa.Cn

namespace Go.Proofs.Yteigcddmbpfahaa.Cn
open Go.RowKit Go.Proofs.YteigcddmbpfahaaW.PrintWords Go.Proofs.YteigcddmbpfahaaW.PrintLast Go.Proofs.YteigcddmbpfahaaW.PrintMore
def SlotsAt (w : World) (base : Nat) (A : Option Addr) (l : List Bool) : Prop :=
  ∀ i, (h : i < l.length) → ∃ ad : Addr, A = some ad ∧ ad.block < base ∧ w.cell? (ad.add i) = some (.bool l[i])

theorem addr_add_block (ad : Addr) (i : Nat) : (ad.add i).block = ad.block := by unfold Addr.add; split <;> rfl
theorem cell_keep {w w' : World} {T : List Nat} (k : Keep T w w') {p : Addr} {v : Value} (h : w.cell? p = some v) (hT : p.block ∉ T) : w'.cell? p = some v := by
  have hlt := World.block_lt_of_cell? w p h
  have := k.block p.block hlt hT
  rw [World.cell?_of_block (w := w) this]; exact h
theorem SlotsAt.keep {w w' : World} {base : Nat} {A : Option Addr} {l : List Bool} {T : List Nat} (h : SlotsAt w base A l) (k : Keep T w w') (hT : ∀ r ∈ T, base ≤ r) : SlotsAt w' base A l := by
  intro i hi
  obtain ⟨ad, rfl, hb, hc⟩ := h i hi
  exact ⟨ad, rfl, hb, cell_keep k hc (fun hm => by have := hT _ hm; rw [addr_add_block] at this; omega)⟩
theorem SlotsAt.below {w w' : World} {base : Nat} {A : Option Addr} {l : List Bool} (h : SlotsAt w base A l) (k : Below base w w') : SlotsAt w' base A l := by
  intro i hi
  obtain ⟨ad, rfl, hb, hc⟩ := h i hi
  exact ⟨ad, rfl, hb, (k.cell (p := ad.add i) (by rw [addr_add_block]; exact hb)).trans hc⟩
def InvS (D m : Nat) (S : Nat → KS) : Prop :=
  ∀ k, k ≤ D → (S k).out = false → (S k).n = m ∧ 0 ≤ (S k).h ∧ (S k).h ≤ m ∧ 0 ≤ (S k).c ∧ (S k).c ≤ 1000000000000

def start : Nat → KS := fun _ => ⟨0, 0, 1048576, false, 0⟩
def runS (D A : Int) : List Bool → (Nat → KS) → (Nat → KS)
  | [], S => S
  | x :: l, S => runS D A l (stepAll D A x S)
theorem runS_snoc (D A : Int) (l : List Bool) (x : Bool) (S : Nat → KS) : runS D A (l ++ [x]) S = stepAll D A x (runS D A l S) := by
  induction l generalizing S with
  | nil => rfl
  | cons y l ih => simp only [List.cons_append, runS]; exact ih _

theorem moveV_bd {hit : Bool} {D n h k c : Int} (hD : 0 ≤ D) (hn : h ≤ n) (h0 : 0 ≤ h) (k0 : 0 ≤ k) (kD : k ≤ D) (c0 : 0 ≤ c) (c1 : c ≤ 1000000000000) : 0 ≤ moveV hit D n h k c ∧ moveV hit D n h k c ≤ 1000000000000 := by
  cases hit <;> simp only [moveV, Bool.false_eq_true, ↓reduceIte, hitV, missV]
  · split
    · exact ⟨c0, c1⟩
    · split
      · omega
      · have : 0 ≤ c * (n - h + 1) * D / ((n + 2) * (D - k)) := Int.ediv_nonneg (Int.mul_nonneg (Int.mul_nonneg c0 (by omega)) hD) (Int.mul_nonneg (by omega) (by omega))
        omega
  · split
    · omega
    · split
      · exact ⟨c0, c1⟩
      · have : 0 ≤ c * (h + 1) * D / ((n + 2) * k) := Int.ediv_nonneg (Int.mul_nonneg (Int.mul_nonneg c0 (by omega)) hD) (Int.mul_nonneg (by omega) k0)
        omega

theorem InvS.step {D m : Nat} {S : Nat → KS} (h : InvS D m S) (A : Int) (hit : Bool) : InvS D (m + 1) (stepAll D A hit S) := by
  intro k hk ho
  have ho' : (S k).out = false := by
    cases e : (S k).out
    · rfl
    · simp [stepAll, KS.step, e] at ho
  obtain ⟨h1, h2, h3, h4, h5⟩ := h k hk ho'
  have hb := moveV_bd (hit := hit) (D := D) (n := (S k).n) (h := (S k).h) (k := k) (c := (S k).c) (by omega) (by omega) h2 (by omega) (by omega) h4 h5
  simp only [stepAll, KS.step, ho', Bool.false_eq_true, ↓reduceIte]
  refine ⟨by omega, ?_, ?_, hb.1, hb.2⟩
  · cases hit <;> simp [b2i] <;> omega
  · cases hit <;> simp [b2i] <;> omega
theorem InvS.start (D : Nat) : InvS D 0 start := fun _ _ _ => by simp [Cn.start]
theorem InvS.run {D m : Nat} {S : Nat → KS} (h : InvS D m S) (A : Int) (l : List Bool) : InvS D (m + l.length) (runS D A l S) := by
  induction l generalizing m S with
  | nil => exact h
  | cons x l ih => have := ih (h.step A x); simp only [runS, List.length_cons]; rwa [show m + (l.length + 1) = m + 1 + l.length by omega]
theorem InvS.fit {D m : Nat} {S : Nat → KS} (h : InvS D m S) (hD : 2 ≤ D) (hD2 : D ≤ 1000) (hm : m ≤ 4000) : ∀ k : Nat, k ≤ D → (S k).out = false → Fit D (S k).n (S k).h k (S k).c := by
  intro k hk ho
  obtain ⟨h1, h2, h3, h4, h5⟩ := h k hk ho
  exact ⟨by omega, by omega, h2, by omega, by omega, by omega, by omega, h4, h5⟩

set_option maxHeartbeats 1000000 in
theorem run_calls (B L o cap D m : Nat) (A : Int) (S : Nat → KS) (sa : Option Addr) (sc base : Nat) (l : List Bool) (w : World)
    (hS : BetsAt w B L o cap D A (cnt (D + 1) S) S) (hD : 2 ≤ D) (hD2 : D ≤ 1000) (hi : InvS D m S) (hm : m + l.length ≤ 4000)
    (hs : SlotsAt w base sa l) (hB : base ≤ B) (hL : base ≤ L)
    (hA : 2 ≤ A) (hA2 : A ≤ 900000) :
    Calls Try.prog 35 #[.pointer (some ⟨B, 0, none⟩), .slice sa l.length sc] w fun e w' => e = .returned (.pointer (some ⟨B, 0, none⟩)) ∧ Keep [B, L] w w' ∧
      BetsAt w' B L o cap D A (cnt (D + 1) (runS D A l S)) (runS D A l S) := by
  have HS := Lib.hid hS
  have HI := Lib.hid hi
  have HSl := Lib.hid hs
  clear hS hi hs
  go_enter Try.func35, Try.ntmps35
  go_wp2_with fail
  go_loopw [9] (fun i wr => ∃ k : Nat, k ≤ l.length ∧ i = .int .i64 k ∧ Hid (Keep [B, L] w wr) ∧ Hid (BetsAt wr B L o cap D A (cnt (D + 1) (runS D A (l.take k) S)) (runS D A (l.take k) S))) (fun i _ => l.length - (intOf i).toNat)
  case atStart => exact ⟨0, by omega, rfl, Lib.hid (Keep.refl _ _), HS⟩
  case round =>
    obtain ⟨k, hk, rfl, HKr, HSr⟩ := hrel
    by_cases hlt : k < l.length
    · obtain ⟨ad, rfl, hbl, hc⟩ := (HSl.out.keep HKr.out (by simp; omega)) k hlt
      have hbd : (0 : Int) ≤ (k : Int) ∧ (k : Int) < (l.length : Int) := ⟨by omega, by omega⟩
      have hT : l.take (k + 1) = l.take k ++ [l[k]] := List.take_succ_eq_append_getElem hlt
      have hIr := HI.out.run A (l.take k)
      rw [List.length_take, Nat.min_eq_left hk] at hIr
      have HIr := Lib.hid hIr
      have HT := Lib.hid hT
      clear hT hIr
      generalize l[k] = x at *
      go_wp2_with fail
      refine (betsNext_calls B L o cap D A _ x _ HSr.out hD2 (HIr.out.fit hD hD2 (by omega)) hA hA2).mono ?_
      rintro e w2 ⟨rfl, k2, hS2⟩
      rw [← runS_snoc, ← HT.out] at hS2
      have HS3 := Lib.hid hS2
      have HK3 := Lib.hid (HKr.out.trans k2)
      clear hS2 k2
      go_wp2
      go_roundw
      case rel => exact ⟨k + 1, by omega, by go_num, HK3, HS3⟩
      case measure => simp [intOf]; omega
    · obtain rfl : k = l.length := by omega
      have h := HSr.out
      rw [List.take_of_length_le (Nat.le_refl _)] at h
      have HSr := Lib.hid h
      clear h
      go_wp2
      go_ret
      exact ⟨rfl, HKr.out, HSr.out⟩
end Go.Proofs.Yteigcddmbpfahaa.Cn

namespace Go.Proofs.Yteigcddmbpfahaa.Cn
open Go.RowKit Go.Proofs.YteigcddmbpfahaaW.PrintWords Go.Proofs.YteigcddmbpfahaaW.PrintLast Go.Proofs.YteigcddmbpfahaaW.PrintMore

theorem zeroBets_list : Try.zeroCells116.toList = [.int .i64 0, .int .i64 0, .slice none 0 0] ++ List.replicate 1001 (.bool false) ++ [.int .i64 0] ++ List.replicate 1001 (.int .i64 0) := by kernel_rfl
theorem zeroBets_size : Try.zeroCells116.size = 2006 := by kernel_rfl
noncomputable def Zb (a b c : Int) : Array Value := ((Try.zeroCells116.setIfInBounds 0 (.int .i64 a)).setIfInBounds 1 (.int .i64 b)).setIfInBounds 1004 (.int .i64 c)
theorem rows_get (x y z p c d : Value) (n m i : Nat) : ([x, y, z] ++ List.replicate n p ++ [c] ++ List.replicate m d)[i]? =
    if i = 0 then some x else if i = 1 then some y else if i = 2 then some z else if i < 3 + n then some p else if i = 3 + n then some c else if i < 4 + n + m then some d else none := by
  by_cases h0 : i = 0
  · subst h0; simp
  by_cases h1 : i = 1
  · subst h1; simp
  by_cases h2 : i = 2
  · subst h2; simp
  rw [if_neg h0, if_neg h1, if_neg h2]
  by_cases h4 : i < 3 + n
  · rw [if_pos h4, List.getElem?_append_left (by simp; omega), List.getElem?_append_left (by simp; omega), List.getElem?_append_right (by simp; omega), List.getElem?_replicate, if_pos (by simp; omega)]
  · rw [if_neg h4]
    by_cases h5 : i = 3 + n
    · subst h5
      rw [if_pos rfl, List.getElem?_append_left (by simp; omega), List.getElem?_append_right (by simp; omega)]
      rw [show 3 + n - ([x, y, z] ++ List.replicate n p).length = 0 by simp; omega]
      rfl
    · rw [if_neg h5, List.getElem?_append_right (by simp; omega), List.getElem?_replicate]
      by_cases h6 : i < 4 + n + m
      · rw [if_pos h6, if_pos (by simp; omega)]
      · rw [if_neg h6, if_neg (by simp; omega)]
theorem zeroBets_get (i : Nat) : Try.zeroCells116[i]? = if i = 0 then some (.int .i64 0) else if i = 1 then some (.int .i64 0) else if i = 2 then some (.slice none 0 0) else
    if i < 1004 then some (.bool false) else if i = 1004 then some (.int .i64 0) else if i < 2006 then some (.int .i64 0) else none := by
  rw [← Array.getElem?_toList, zeroBets_list, rows_get]
theorem Zb_get (a b c : Int) (i : Nat) : (Zb a b c)[i]? = if i = 0 then some (.int .i64 a) else if i = 1 then some (.int .i64 b) else if i = 2 then some (.slice none 0 0) else
    if i < 1004 then some (.bool false) else if i = 1004 then some (.int .i64 c) else if i < 2006 then some (.int .i64 0) else none := by
  have hz := zeroBets_size
  simp only [Zb, Array.getElem?_setIfInBounds, Array.size_setIfInBounds, hz, zeroBets_get]
  by_cases h0 : i = 0
  · subst h0; simp
  by_cases h1 : i = 1
  · subst h1; simp
  by_cases h3 : i = 1004
  · subst h3; simp
  rw [if_neg (by omega), if_neg (by omega), if_neg (by omega)]
  rw [if_neg h0, if_neg h0, if_neg h1, if_neg h1, if_neg h3, if_neg h3]

structure SBet where
  D : Int
  n : Int
  h : Int
  k : Int
  c : Int
def kBet : Kd SBet := Kd.iso (Kd.pair (Kd.int .i64) (Kd.pair (Kd.int .i64) (Kd.pair (Kd.int .i64) (Kd.pair (Kd.int .i64) (Kd.int .i64))))) (fun x : SBet => (x.D, x.n, x.h, x.k, x.c))
theorem kBet_mkM (w : World) (base : Nat) (ok : Nat → Prop) (x : SBet) : kBet.M w base ok x [.int .i64 x.D, .int .i64 x.n, .int .i64 x.h, .int .i64 x.k, .int .i64 x.c] :=
  ⟨[.int .i64 x.D], _, rfl, rfl, [.int .i64 x.n], _, rfl, rfl, [.int .i64 x.h], _, rfl, rfl, [.int .i64 x.k], [.int .i64 x.c], rfl, rfl, rfl⟩
theorem kBet_open {w : World} {x : SBet} {cs : List Value} (h : kBet.K w x cs) : cs = [.int .i64 x.D, .int .i64 x.n, .int .i64 x.h, .int .i64 x.k, .int .i64 x.c] := by
  obtain ⟨_, _, rfl, rfl, _, _, rfl, rfl, _, _, rfl, rfl, _, _, rfl, rfl, rfl⟩ := h
  exact rfl
theorem info_bet : (Try.prog.info? 120).map (fun i => (i.zero, i.size, i.bytes)) = some (some (.agg #[.int .i64 0, .int .i64 0, .int .i64 0, .int .i64 0, .int .i64 0]), 5, 40) := by kernel_rfl

def begun (D i : Nat) : List SBet := (List.range i).map (fun k : Nat => ⟨D, 0, 0, (k : Int), 1048576⟩)
theorem begun_succ (D i : Nat) : begun D (i + 1) = begun D i ++ [⟨D, 0, 0, i, 1048576⟩] := by
  simp [begun, List.range_succ]
theorem begun_len (D i : Nat) : (begun D i).length = i := by simp [begun]

structure NewB (cs : Array Value) (D : Nat) (A : Int) (v : Value) : Prop where
  p : cs[0]? = some (.int .i64 D)
  lv : cs[1]? = some (.int .i64 A)
  l : cs[2]? = some v
  out : ∀ k, k ≤ D → cs[3 + k]? = some (.bool false)
  kept : cs[1004]? = some (.int .i64 (D + 1))
  at_ : ∀ k, k ≤ D → cs[1005 + k]? = some (.int .i64 0)
theorem NewB.start {D : Nat} (hD : D ≤ 1000) (A : Int) : NewB (Zb D A (D + 1)) D A (.slice none 0 0) := by
  refine ⟨?_, ?_, ?_, fun k hk => ?_, ?_, fun k hk => ?_⟩
  · rw [Zb_get, if_pos rfl]
  · rw [Zb_get, if_neg (by omega), if_pos rfl]
  · rw [Zb_get, if_neg (by omega), if_neg (by omega), if_pos rfl]
  · rw [Zb_get, if_neg (by omega), if_neg (by omega), if_neg (by omega), if_pos (by omega)]
  · rw [Zb_get, if_neg (by omega), if_neg (by omega), if_neg (by omega), if_neg (by omega), if_pos rfl]
  · rw [Zb_get, if_neg (by omega), if_neg (by omega), if_neg (by omega), if_neg (by omega), if_neg (by omega), if_pos (by omega)]
theorem NewB.set {cs : Array Value} {D : Nat} {A : Int} {v : Value} (h : NewB cs D A v) (u : Value) : NewB (cs.setIfInBounds 2 u) D A u :=
  ⟨(get_set_other (by omega)).trans h.p, (get_set_other (by omega)).trans h.lv, get_set_same h.l, fun k hk => (get_set_other (by omega)).trans (h.out k hk), (get_set_other (by omega)).trans h.kept, fun k hk => (get_set_other (by omega)).trans (h.at_ k hk)⟩

theorem bets_of_new {w : World} {B D : Nat} {A : Int} {cs : Array Value} {v : Value} {base : Nat} (hB : Blk w B cs 116) (hN : NewB cs D A v) (hR : kBet.R 120 w base (fun _ => True) v (begun D (D + 1))) :
    ∃ L o cap, base ≤ L ∧ BetsAt w B L o cap D A (cnt (D + 1) start) start := by
  obtain ⟨g, cap, rfl, hg, hlt, cells, hc⟩ := Kd.R_form hR (by rw [begun_len]; omega)
  rw [begun_len] at *
  refine ⟨g, 0, cap, hg, ?_, cs, cells, hB, hc, ⟨hN.p, hN.lv, hN.l, hN.out, ?_, hN.at_⟩, ?_⟩
  · rintro rfl
    have := hB.symm.trans hc
    injection this with this
    injection this with _ this
    exact absurd this (by decide)
  · have : ∀ i, cnt i start = i := by
      intro i
      induction i with
      | zero => rfl
      | succ i ih => simp only [cnt, ih, start, Bool.false_eq_true, ↓reduceIte]; omega
    rw [this, hN.kept]; rfl
  · intro k hk
    obtain ⟨_, hle, hC⟩ := Kd.R_reads' hR
    obtain ⟨ad, c, e, _, hK, hc0⟩ := Kd.C_get hC (⟨0, 0, 0, 0, 0⟩ : SBet) k (by omega) (by rw [begun_len]; omega)
    injection e with e
    subst e
    have hx : (begun D (D + 1)).getD (k : Int).toNat ⟨0, 0, 0, 0, 0⟩ = ⟨D, 0, 0, k, 1048576⟩ := by
      simp [begun, List.getElem?_range (show k < D + 1 by omega)]
    rw [hx] at hK
    obtain rfl := kBet_open hK
    have hq : ∀ j u, ([.int .i64 (D : Int), .int .i64 0, .int .i64 0, .int .i64 (k : Int), .int .i64 1048576] : List Value)[j]? = some u → cells[0 + k * 5 + j]? = some u := by
      intro j u h
      have h2 := hc0 j u h
      have hb : Blk w g cells 120 := hc
      simp only [Int.toNat_natCast] at h2
      have h3 : (({ block := g, off := 0 } : Addr).add (k * 5 + j)) = ⟨g, 0 + k * 5 + j, none⟩ := by
        unfold Addr.add; split
        · rename_i h0; simp
        · simp
      have h4 : kBet.sz = 5 := rfl
      rw [h4, h3, hb.cell] at h2
      exact h2
    exact ⟨hq 0 _ rfl, hq 1 _ rfl, hq 2 _ rfl, hq 3 _ rfl, hq 4 _ rfl⟩

set_option maxRecDepth 100000 in
set_option maxHeartbeats 1000000 in
theorem begin_calls (D : Nat) (A : Int) (w : World) (hD : D ≤ 1000) :
    Calls Try.prog 34 #[.int .i64 D, .int .i64 A] w fun e w' => ∃ B L o cap, e = .returned (.pointer (some ⟨B, 0, none⟩)) ∧ Below w.heap.size w w' ∧ w.heap.size ≤ B ∧ w.heap.size ≤ L ∧
      BetsAt w' B L o cap D A (cnt (D + 1) start) start := by
  have bd : (D : Int) ≤ 1000 := by omega
  go_enter Try.func34, Try.ntmps34
  go_wp2_with fail
  have hb0 := Blk.new w (Zb D A (D + 1)) 116
  have hN0 := Lib.hid (NewB.start hD A)
  have HB0 := Lib.hid ((Below.refl w.heap.size w).alloc (Nat.le_refl _) (.cells (Zb D A (D + 1)) 116 (0, 0)))
  have HX := Lib.hid (show ((w.alloc (Obj.cells (((Try.zeroCells116.setIfInBounds 0 (Value.int IntKind.i64 ↑D)).setIfInBounds 1 (Value.int IntKind.i64 A)).setIfInBounds 1004 (Value.int IntKind.i64 (↑D + 1))) 116)) = w.alloc (.cells (Zb D A (D + 1)) 116 (0, 0))) from rfl)
  rw [HX.out]
  have Hb0 := Lib.hid hb0
  clear hb0 HX
  generalize w.alloc (.cells (Zb D A (D + 1)) 116 (0, 0)) = w0 at *
  go_loopw [15] (fun i wr => ∃ (k : Nat) (v : Value) (cs : Array Value), k ≤ D + 1 ∧ i = .int .i64 k ∧ Hid (Blk wr w.heap.size cs 116) ∧ Hid (NewB cs D A v) ∧ Hid (kBet.R 120 wr w.heap.size (fun _ => True) v (begun D k)) ∧ Hid (Below w.heap.size w wr)) (fun i _ => D + 1 - (intOf i).toNat)
  case atStart => exact ⟨0, _, _, by omega, rfl, Hb0, hN0, Lib.hid (Kd.R_nil _ _ _ _ _), HB0⟩
  case round =>
    obtain ⟨k, v, cs, hk, rfl, HBr, HNr, HRr, HWr⟩ := hrel
    by_cases hlt : k < D + 1
    · have c2 := (HBr.out.cell 2).trans HNr.out.l
      have f2 := HBr.out.free 2
      go_wp2_with ((with_reducible refine gate_builtin (b := .append) (xs := #[.tmp 22, .tmp 27]) rfl ?_); at_builtin; refine Kd.R_append kBet (w0 := w) w.heap.size rfl (.tmp 22) (.tmp 27) 111 120 (.agg #[.int .i64 0, .int .i64 0, .int .i64 0, .int .i64 0, .int .i64 0]) 40 rfl Try.underlying111 info_bet rfl (by decide) (by omega) v (begun D k) (⟨D, 0, 0, k, 1048576⟩ : SBet) [.int .i64 (D : Int), .int .i64 0, .int .i64 0, .int .i64 (k : Int), .int .i64 1048576] (fun _ => True) (fun _ => False) rfl rfl (kBet_mkM _ _ _ (⟨D, 0, 0, k, 1048576⟩ : SBet)) (fun _ hk => hk.elim) (fun _ _ => trivial) HRr.out HWr.out HWr.out.size (by rw [begun_len]; omega) ?_; intro v1 w1 hR1 hB1 hg1 _; have hb1 : Blk w1 w.heap.size cs 116 := (hg1.block _ HBr.out.lt (Kd.R_ne HRr.out HBr.out (by decide))).trans HBr.out; have HR1 := Lib.hid hR1; have HB1 := Lib.hid hB1; have Hb1 := Lib.hid hb1; have f3 := hb1.free 2; have c3 := (hb1.cell 2).trans HNr.out.l; clear hR1 hB1 hg1 hb1 c2 f2; obtain ⟨A1, n1, e1⟩ := Kd.R_slice HR1.out; subst e1)
      go_roundw
      case rel => exact ⟨k + 1, _, _, by omega, by go_num, Lib.hid (Hb1.out.setCell _ _), Lib.hid (HNr.out.set _), Lib.hid (by rw [begun_succ]; have h := Kd.R_set HR1.out Hb1.out (by decide) 2 (.slice A1 ((begun D k).length + 1) n1); rw [List.length_append] at h; exact h), Lib.hid (HB1.out.setCell (Nat.le_refl _) _)⟩
      case measure => simp [intOf]; omega
    · obtain rfl : k = D + 1 := by omega
      go_wp2
      go_ret
      obtain ⟨L, o, cap, hL, hS⟩ := bets_of_new HBr.out HNr.out HRr.out
      exact ⟨_, L, o, cap, rfl, HWr.out, Nat.le_refl _, hL, hS⟩
end Go.Proofs.Yteigcddmbpfahaa.Cn

namespace Go.Proofs.Yteigcddmbpfahaa.Cn
open Go.RowKit Go.Proofs.YteigcddmbpfahaaW.PrintWords Go.Proofs.YteigcddmbpfahaaW.PrintLast Go.Proofs.YteigcddmbpfahaaW.PrintMore

def allL (S : Nat → KS) : List Nat → Int → Int × Bool
  | [], n => (n, true)
  | k :: ks, n => if (S k).out then allL S ks (max n (S k).at_) else (0, false)
def allV (S : Nat → KS) (low high : Nat) : Int × Bool := allL S (List.range' low (high + 1 - low)) 0

theorem BetsAt.cells {w : World} {B L o cap D : Nat} {A kept : Int} {S : Nat → KS} (h : BetsAt w B L o cap D A kept S) :
    w.cell? ⟨B, 0, none⟩ = some (.int .i64 D) ∧ w.cell? ⟨B, 1004, none⟩ = some (.int .i64 kept) ∧ (∀ k, k ≤ D → w.cell? ⟨B, 3 + k, none⟩ = some (.bool (S k).out)) ∧ (∀ k, k ≤ D → w.cell? ⟨B, 1005 + k, none⟩ = some (.int .i64 (S k).at_)) := by
  obtain ⟨_, cs, ls, hB, hL, iB, iL⟩ := h
  exact ⟨(hB.cell 0).trans iB.p, (hB.cell 1004).trans iB.kept, fun k hk => (hB.cell _).trans (iB.out k hk), fun k hk => (hB.cell _).trans (iB.at_ k hk)⟩
theorem BetsAt.lt {w : World} {B L o cap D : Nat} {A kept : Int} {S : Nat → KS} (h : BetsAt w B L o cap D A kept S) : B < w.heap.size ∧ L < w.heap.size := by
  obtain ⟨_, cs, ls, hB, hL, iB, iL⟩ := h
  exact ⟨hB.lt, hL.lt⟩

set_option maxHeartbeats 1000000 in
theorem all_calls (B L o cap D low high : Nat) (A kept : Int) (S : Nat → KS) (w : World) (hS : BetsAt w B L o cap D A kept S) (hD : D ≤ 1000) (hh : high ≤ D) :
    Calls Try.prog 58 #[.pointer (some ⟨B, 0, none⟩), .int .i64 low, .int .i64 high] w fun e w' => e = .returned (.tuple #[.int .i64 (allV S low high).1, .bool (allV S low high).2]) ∧ w = w' := by
  obtain ⟨_, _, ho, ha⟩ := hS.cells
  have HO := Lib.hid ho
  have HA := Lib.hid ha
  have HV := Lib.hid (show allL S (List.range' low (high + 1 - low)) 0 = allV S low high from rfl)
  clear ho ha hS
  go_enter Try.func58, Try.ntmps58
  go_wp2_with fail
  go_loop [8, 9] (fun v8 v9 => ∃ (k : Nat) (n : Int), v8 = .int .i64 n ∧ v9 = .int .i64 k ∧ k ≤ D + 1 + low ∧ Hid (allL S (List.range' k (high + 1 - k)) n = allV S low high)) (fun _ i => high + 1 - (intOf i).toNat)
  case atStart => exact ⟨low, 0, rfl, rfl, by omega, HV⟩
  case round =>
    obtain ⟨k, n, rfl, rfl, hk, HK⟩ := hrel
    by_cases hlt : k ≤ high
    · have c1 := HO.out k (by omega)
      have c2 := HA.out k (by omega)
      have bd2 : (0 : Int) ≤ (k : Int) ∧ (k : Int) < 1001 := ⟨by omega, by omega⟩
      have hK := HK.out
      rw [show high + 1 - k = (high + 1 - (k + 1)) + 1 by omega, List.range'_succ] at hK
      simp only [allL] at hK
      cases e : (S k).out
      · rw [e] at c1 hK
        have HK2 := Lib.hid hK
        clear HK hK e
        go_wp2
        go_ret2
        refine ⟨?_, rfl⟩
        have := HK2.out
        simp only [Bool.false_eq_true, ↓reduceIte] at this
        rw [← this]
        rfl
      · rw [e, if_pos rfl] at hK
        rw [e] at c1
        have HK2 := Lib.hid hK
        clear HK hK e
        go_wp2
        all_goals
          go_round
          case rel =>
            refine ⟨k + 1, max n (S k).at_, ?_, by go_num, by omega, HK2⟩
            congr 1; omega
          case measure => simp [intOf]; omega
    · have hK := HK.out
      rw [show high + 1 - k = 0 by omega] at hK
      simp only [List.range'_zero, allL] at hK
      have HK2 := Lib.hid hK
      clear HK hK
      go_wp2
      go_ret2
      exact ⟨by rw [← HK2.out]; rfl, rfl⟩
end Go.Proofs.Yteigcddmbpfahaa.Cn

namespace Go.Proofs.Yteigcddmbpfahaa.Cn
open Go.RowKit Go.Proofs.YteigcddmbpfahaaW.PrintWords Go.Proofs.YteigcddmbpfahaaW.PrintLast Go.Proofs.YteigcddmbpfahaaW.PrintMore

def decideV (under : Int) (below : Bool) (over : Int) (above : Bool) : Int × Int :=
  if below = true ∧ (above = false ∨ under ≤ over) then (2, under) else if above = true then (3, over) else (1, 0)
def decideS (S : Nat → KS) (D low high : Nat) : Int × Int :=
  decideV (allV S high D).1 (allV S high D).2 (allV S 0 low).1 (allV S 0 low).2

set_option maxHeartbeats 1000000 in
theorem decide_calls (B L o cap D low high : Nat) (A kept : Int) (S : Nat → KS) (w : World) (hS : BetsAt w B L o cap D A kept S) (hD : D ≤ 1000) (hl : low ≤ D) :
    Calls Try.prog 36 #[.pointer (some ⟨B, 0, none⟩), .int .i64 low, .int .i64 high] w fun e w' => e = .returned (.tuple #[.int .i64 (decideS S D low high).1, .int .i64 (decideS S D low high).2]) ∧ w = w' := by
  have c0 := hS.cells.1
  have H1 := Lib.hid (all_calls B L o cap D high D A kept S w hS hD (Nat.le_refl _))
  have H2 := Lib.hid (all_calls B L o cap D 0 low A kept S w hS hD hl)
  have HV := Lib.hid (show decideS S D low high = decideV (allV S high D).1 (allV S high D).2 (allV S 0 low).1 (allV S 0 low).2 from rfl)
  clear hS
  rw [HV.out]
  clear HV
  generalize (allV S high D).1 = under at *
  generalize (allV S high D).2 = below at *
  generalize (allV S 0 low).1 = over at *
  generalize (allV S 0 low).2 = above at *
  cases below
  · cases above
    · go_enter Try.func36, Try.ntmps36
      go_wp2_with fail
      refine H1.out.mono ?_
      rintro e w' ⟨rfl, rfl⟩
      go_wp2_with fail
      refine H2.out.mono ?_
      rintro e w' ⟨rfl, rfl⟩
      go_wp2
      go_ret2
      exact ⟨rfl, rfl⟩
    · go_enter Try.func36, Try.ntmps36
      go_wp2_with fail
      refine H1.out.mono ?_
      rintro e w' ⟨rfl, rfl⟩
      go_wp2_with fail
      refine H2.out.mono ?_
      rintro e w' ⟨rfl, rfl⟩
      go_wp2
      go_ret2
      exact ⟨rfl, rfl⟩
  · cases above
    · go_enter Try.func36, Try.ntmps36
      go_wp2_with fail
      refine H1.out.mono ?_
      rintro e w' ⟨rfl, rfl⟩
      go_wp2_with fail
      refine H2.out.mono ?_
      rintro e w' ⟨rfl, rfl⟩
      go_wp2
      go_ret2
      exact ⟨rfl, rfl⟩
    · rcases Classical.em (under ≤ over) with h | h
      · have hb : decide (under ≤ over) = true := decide_eq_true h
        rw [show decideV under true over true = (2, under) by simp [decideV, h]]
        clear h
        go_enter Try.func36, Try.ntmps36
        go_wp2_with fail
        refine H1.out.mono ?_
        rintro e w' ⟨rfl, rfl⟩
        go_wp2_with fail
        refine H2.out.mono ?_
        rintro e w' ⟨rfl, rfl⟩
        go_wp2
        go_ret2
        exact ⟨rfl, rfl⟩
      · have hb : decide (under ≤ over) = false := decide_eq_false h
        rw [show decideV under true over true = (3, over) by simp [decideV]; omega]
        clear h
        go_enter Try.func36, Try.ntmps36
        go_wp2_with fail
        refine H1.out.mono ?_
        rintro e w' ⟨rfl, rfl⟩
        go_wp2_with fail
        refine H2.out.mono ?_
        rintro e w' ⟨rfl, rfl⟩
        go_wp2
        go_ret2
        exact ⟨rfl, rfl⟩

def listedV (n : Nat) (D : Int) (fine : Bool) : Int := if ¬ (2 ≤ D ∧ D ≤ 1000) then 2 else if 4000 < n then 3 else if fine = false then 2 else 0

end Go.Proofs.Yteigcddmbpfahaa.Cn

namespace Go.Proofs.Yteigcddmbpfahaa.Cn
open Go.RowKit Go.Proofs.YteigcddmbpfahaaW.PrintWords Go.Proofs.YteigcddmbpfahaaW.PrintLast Go.Proofs.YteigcddmbpfahaaW.PrintMore

theorem leveled_calls (n : Int) (w : World) :
    Calls Try.prog 32 #[.int .i64 n] w fun e w' => e = .returned (.bool (withinB n 2 900000)) ∧ w = w' := by
  have HW := Lib.hid (within_calls n 2 900000 w)
  go_enter Try.func32, Try.ntmps32
  go_wp2_with fail
  refine HW.out.mono ?_
  rintro e w' ⟨rfl, rfl⟩
  go_wp2
  go_ret
  exact ⟨rfl, rfl⟩

end Go.Proofs.Yteigcddmbpfahaa.Cn

namespace Go.Proofs.Yteigcddmbpfahaa.Cn
open Go.RowKit Go.Proofs.YteigcddmbpfahaaW.PrintWords Go.Proofs.YteigcddmbpfahaaW.PrintLast Go.Proofs.YteigcddmbpfahaaW.PrintMore
theorem withinB_iff {n low high : Int} : withinB n low high = true ↔ low ≤ n ∧ n ≤ high := by simp [withinB]

theorem BetAt.drewN {w : World} {b o : Nat} {D n h k c : Int} (hb : BetAt w b o D n h k c) (m : Nat) : BetAt (w.drewN m) b o D n h k c := ⟨hb.h0, hb.h1, hb.h2, hb.h3, hb.h4⟩
end Go.Proofs.Yteigcddmbpfahaa.Cn

namespace Go.Proofs.Yteigcddmbpfahaa.Cn
set_option linter.unusedVariables false
open Go.RowKit Go.Proofs.YteigcddmbpfahaaW.PrintWords Go.Proofs.YteigcddmbpfahaaW.PrintLast Go.Proofs.YteigcddmbpfahaaW.PrintMore
structure Ran (w0 w : World) (B L o cap D : Nat) (A : Int) (l : List Bool) : Prop where
  below : Below w0.heap.size w0 w
  bB : w0.heap.size ≤ B
  bL : w0.heap.size ≤ L
  at_ : BetsAt w B L o cap D A (cnt (D + 1) (runS D A l start)) (runS D A l start)

end Go.Proofs.Yteigcddmbpfahaa.Cn

namespace Go.Proofs.Yteigcddmbpfahaa.Cn
set_option linter.unusedVariables false
open Go.RowKit Go.Proofs.YteigcddmbpfahaaW.PrintWords Go.Proofs.YteigcddmbpfahaaW.PrintLast Go.Proofs.YteigcddmbpfahaaW.PrintMore

def count_Decide.f (l0 : List Bool) (a1 a2 a3 a4 : Int) : Option (Int × Int × Int) :=
  if listedV l0.length a1 (withinB a2 2 900000 && withinB a4 1 a1 && withinB a3 0 (a4 - 1)) = 0 then
    some ((decideS (runS a1 a2 l0 start) a1.toNat a3.toNat a4.toNat).1, (decideS (runS a1 a2 l0 start) a1.toNat a3.toNat a4.toNat).2, 0)
  else some (0, 0, listedV l0.length a1 (withinB a2 2 900000 && withinB a4 1 a1 && withinB a3 0 (a4 - 1)))

end Go.Proofs.Yteigcddmbpfahaa.Cn
