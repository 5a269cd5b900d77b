import Derived.Test.YteigcddmbpfahaaGe
import Derived.Test.YteigcddmbpfahaaM1
import Derived.Maps.OwnIn
namespace Go.Proofs.Yteigcddmbpfahaa.Cn
set_option linter.unusedVariables false
set_option linter.unusedSimpArgs false
open Go.RowKit Go.Proofs.YteigcddmbpfahaaW.PrintWords Go.Proofs.YteigcddmbpfahaaW.PrintLast Go.Proofs.YteigcddmbpfahaaW.PrintMore Go.Proofs.Yteigcddmbpfahaa.Pc
def moreL (ss : List S58) (bu : Int) : Nat → Nat → List Int → Nat → List (List Int)
  | _, 0, _, _ => []
  | 0, r + 1, xs, i => (if costV ss (xs ++ [(i : Int)]) ≤ bu then [xs ++ [(i : Int)]] else []) ++ moreL ss bu 0 r xs (i + 1)
  | d + 1, r + 1, xs, i => (if costV ss (xs ++ [(i : Int)]) ≤ bu then [xs ++ [(i : Int)]] else []) ++ (moreL ss bu d r (xs ++ [(i : Int)]) (i + 1) ++ moreL ss bu (d + 1) r xs (i + 1))
def choicesL (ss : List S58) (bu : Int) : List (List Int) := moreL ss bu 2 ss.length [] 0

abbrev Yld := Option Addr × Nat × List Int
def lstY (x : Yld) : List Int := x.2.2
def encY (x : Yld) : Array Value := #[.slice x.1 (lstY x).length x.2.1]
def CxY (ss : List S58) (bu : Int) (pre : List Yld) (x : Yld) (W : World) : Prop := ChoiceG bu ss (lstY x) ∧ Kd.C (Kd.int .i64) W x.1 (lstY x).length (lstY x) ∧ (lstY x).length ≤ x.2.1

structure UpTo (xs : List Int) (i : Nat) : Prop where
  inS : ∀ x ∈ xs, 0 ≤ x ∧ x < (i : Int)
  up : ∀ j : Nat, 0 < j → (h : j < xs.length) → xs[j - 1]'(by omega) < xs[j]
theorem UpTo.nil : UpTo [] 0 := ⟨fun x h => (by cases h), fun j _ h => (by simp at h)⟩
theorem UpTo.mono {xs : List Int} {i k : Nat} (h : UpTo xs i) (hk : i ≤ k) : UpTo xs k := ⟨fun x hx => by have := h.inS x hx; omega, h.up⟩
theorem UpTo.snoc {xs : List Int} {i : Nat} (h : UpTo xs i) : UpTo (xs ++ [(i : Int)]) (i + 1) := by
  refine ⟨fun x hx => ?_, fun j h0 hj => ?_⟩
  · rcases List.mem_append.1 hx with hx | hx
    · have := h.inS x hx; omega
    · rw [List.mem_singleton] at hx; omega
  · rw [List.length_append, List.length_singleton] at hj
    by_cases hl : j < xs.length
    · rw [List.getElem_append_left (by omega), List.getElem_append_left hl]
      exact h.up j h0 hl
    · have hj2 : j = xs.length := by omega
      subst hj2
      rw [List.getElem_append_left (by omega), List.getElem_append_right (by omega)]
      simp only [Nat.sub_self, List.getElem_cons_zero]
      exact (h.inS _ (List.getElem_mem (by omega))).2
theorem UpTo.choice {xs : List Int} {i : Nat} {bu : Int} {ss : List S58} (h : UpTo xs i) (hi : i < ss.length) (h3 : xs.length < 3) (hc : costV ss (xs ++ [(i : Int)]) ≤ bu) : ChoiceG bu ss (xs ++ [(i : Int)]) := by
  have hs := h.snoc
  exact ⟨by simp, by simp; omega, fun x hx => by have := hs.inS x hx; omega, hs.up, hc⟩

def KQ (K : Nat → Prop) (W W' : World) : Prop := ∀ k, K k → W'.heap[k]? = W.heap[k]?
theorem KQ.refl (K : Nat → Prop) (W : World) : KQ K W W := fun _ _ => rfl
theorem KQ.trans {K : Nat → Prop} {A B C : World} (h : KQ K A B) (k : KQ K B C) : KQ K A C := fun i hi => (k i hi).trans (h i hi)
theorem KQ.blk {K : Nat → Prop} {A B : World} (h : KQ K A B) {n : Nat} {cs : Array Value} {t : TypeId} (hb : Blk A n cs t) (hn : K n) : Blk B n cs t := by
  unfold Blk at *
  exact (h n hn).trans hb
theorem C_blk {α : Type} {d : Kd α} {w w' : World} {A : Option Addr} {n : Nat} {xs : List α} (hd : ∀ x cs, d.K w x cs → d.K w' x cs) (hc : ∀ ad, A = some ad → w'.heap[ad.block]? = w.heap[ad.block]?) (h : Kd.C d w A n xs) : Kd.C d w' A n xs := by
  obtain ⟨h1, h2, h3⟩ := h
  refine ⟨h1, h2, fun hn => ?_⟩
  obtain ⟨ad, e, hr⟩ := h3 hn
  refine ⟨ad, e, fun j p hp => ?_⟩
  obtain ⟨cs, hl, hk, hcs⟩ := hr j p hp
  refine ⟨cs, hl, hd _ _ hk, fun i u hu => ?_⟩
  have := hcs i u hu
  unfold World.cell? at this ⊢
  have e2 : (ad.add (j * d.sz + i)).block = ad.block := by unfold Addr.add; split <;> rfl
  rw [e2] at this ⊢
  rw [hc ad e]
  exact this
theorem KQ.sites {K : Nat → Prop} {A B : World} (h : KQ K A B) {X : Option Addr} {n : Nat} {ss : List S58} (hK : ∀ ad, X = some ad → K ad.block) (hc : Kd.C k58 A X n ss) : Kd.C k58 B X n ss :=
  C_blk (w := A) (w' := B) (fun x cs hk => by rw [k58_open hk]; exact k58_mk B x) (fun ad e => h _ (hK ad e)) hc

structure Now (W : World) (base l bt bn yb bm : Nat) (O : Nat → Prop) (v : Value) (xs : List Int) : Prop where
  now : Blk W bn #[v] 44
  row : W.ownsRow base 3 1 v xs.length (nums .i64 xs)
  own : ∀ k, v.ownBlock = some k → O k ∧ k ≠ bn ∧ k ≠ yb ∧ k ≠ bm
  yl : Blk W yb #[.func (.yield l) #[] #[]] 151
  mo : Blk W bm #[.func (.func 87) #[] #[.pointer (some ⟨bt, 0, none⟩), .pointer (some ⟨bn, 0, none⟩), .pointer (some ⟨yb, 0, none⟩), .pointer (some ⟨bm, 0, none⟩)]] 84
  on : O bn
  oy : O yb
  om : O bm
  ny : bn ≠ yb
  nm : bn ≠ bm
  low : ∀ k, O k → base ≤ k
  base : base ≤ W.heap.size
  lt : ∀ k, O k → k < W.heap.size
theorem Now.keep {W W' : World} {base l bt bn yb bm : Nat} {O : Nat → Prop} {v : Value} {xs : List Int} (h : Now W base l bt bn yb bm O v xs) (hk : ∀ k, O k → W'.heap[k]? = W.heap[k]?) (hs : W.heap.size ≤ W'.heap.size) : Now W' base l bt bn yb bm O v xs := by
  refine ⟨?_, own_move h.row (fun k hk' => hk k (h.own k hk').1), h.own, ?_, ?_, h.on, h.oy, h.om, h.ny, h.nm, h.low, Nat.le_trans h.base hs, fun k hk => Nat.lt_of_lt_of_le (h.lt k hk) hs⟩
  · have := h.now; unfold Blk at *; rw [hk _ h.on]; exact this
  · have := h.yl; unfold Blk at *; rw [hk _ h.oy]; exact this
  · have := h.mo; unfold Blk at *; rw [hk _ h.om]; exact this
theorem row_reads {W : World} {base : Nat} {v : Value} {xs : List Int} (h : W.ownsRow base 3 1 v xs.length (nums .i64 xs)) : ∃ A c, v = .slice A xs.length c ∧ Kd.C (Kd.int .i64) W A xs.length xs ∧ xs.length ≤ c ∧ (∀ ad, A = some ad → v.ownBlock = some ad.block) ∧ (0 < xs.length → ∃ g, A = some ⟨g, 0, none⟩) := by
  have hcells := fun g hg => World.ownsRow.cells h (g := g) hg
  obtain ⟨h1, ⟨rfl, h2⟩ | ⟨g, cap, cur, rfl, hg, hh, hn, hm, hc, ht⟩⟩ := h
  · have hx : xs = [] := List.length_eq_zero_iff.1 h2
    subst hx
    exact ⟨none, 0, rfl, Kd.C_nil _ W, Nat.le_refl _, fun ad e => by (cases e), fun h => absurd h (Nat.lt_irrefl 0)⟩
  · refine ⟨some ⟨g, 0, none⟩, cap, rfl, ⟨rfl, by simp only [maxLen] at hm; omega, fun _ => ⟨⟨g, 0, none⟩, rfl, fun j p hp => ⟨[.int .i64 p], rfl, rfl, fun i u hu => ?_⟩⟩⟩, hn, fun ad e => by cases e; rfl, fun _ => ⟨g, rfl⟩⟩
    have hi0 : i = 0 := by
      rcases i with _ | i
      · rfl
      · simp at hu
    subst hi0
    have hj := hcells g rfl j (.int .i64 p) (by simp [nums, hp])
    simp only [List.getElem?_cons_zero, Option.some.injEq] at hu
    subst hu
    have e1 : j * (Kd.int .i64).sz + 0 = j := by show j * 1 + 0 = j; omega
    rw [e1]
    exact hj
theorem row_back {W : World} {base : Nat} {g cap : Nat} {xs : List Int} {x : Int} (h : W.ownsRow base 3 1 (.slice (some ⟨g, 0, none⟩) (xs ++ [x]).length cap) (xs ++ [x]).length (nums .i64 (xs ++ [x]))) :
    W.ownsRow base 3 1 (.slice (some ⟨g, 0, none⟩) xs.length cap) xs.length (nums .i64 xs) := by
  obtain ⟨h1, ⟨h2, _⟩ | ⟨g', cap', cur, he, hg, hh, hn, hm, hc, ht⟩⟩ := h
  · cases h2
  · cases he
    refine ⟨by simp [nums], Or.inr ⟨g, cap, cur, rfl, hg, hh, by simp at hn; omega, hm, hc, ?_⟩⟩
    rw [Nat.mul_one, nums_append] at ht
    have := congrArg (List.take xs.length) ht
    rw [List.take_take, List.take_left' (by simp [nums])] at this
    rw [Nat.mul_one, ← this]
    congr 1
    simp
theorem yield_any {m : Nat} (m' : Nat) {P : Program} {l : Nat} {args : Array Value} {W : World} {R : Ending → World → Prop} (h : YieldAt Fence.wide m P l args W R) : YieldAt Fence.wide m' P l args W R := by
  obtain ⟨fn, tmps, assign, body, hy, hR⟩ := h
  exact ⟨fn, tmps, assign, body, hy, hR.1, fun c cs _ => hR.2 c cs (fun d h => by cases h)⟩

theorem info_i : (Try.prog.info? 3).map (fun i => (i.zero, i.size, i.bytes)) = some (some (.int .i64 0), 1, 8) := by kernel_rfl
theorem blk_alloc {W : World} {n : Nat} {cs : Array Value} {t : TypeId} (h : Blk W n cs t) (o : Obj) : Blk (W.alloc o) n cs t := h.alloc o
theorem now_push {W : World} {base l bt bn yb bm : Nat} {O : Nat → Prop} {v : Value} {xs : List Int} (h : Now W base l bt bn yb bm O v xs) (hx : xs.length ≤ 100) (x : Int) :
    ∃ v2 w2, (Builtin.append_ #[44, 44] 44 #[v, .slice (some ⟨W.heap.size, 0, none⟩) 1 1]).run Try.prog (W.alloc (.cells #[.int .i64 x] 3 (0, 0))) = .ok v2 w2 ∧ Blk w2 bn #[v] 44 ∧
      Now (w2.setCell ⟨bn, 0, none⟩ v2) base l bt bn yb bm (fun k => O k ∨ (W.heap.size ≤ k ∧ k < w2.heap.size)) v2 (xs ++ [x]) ∧ Chg O W (w2.setCell ⟨bn, 0, none⟩ v2) := by
  obtain ⟨i0, hi, hz0, hz1, hz2⟩ := info_parts info_i
  have hlt : ∀ k, O k → k < W.heap.size → (W.alloc (.cells #[.int .i64 x] 3 (0, 0))).heap[k]? = W.heap[k]? := fun k _ hk => Below.heap_alloc _ _ _ hk
  have hown := own_move (w1 := W.alloc (.cells #[.int .i64 x] 3 (0, 0))) h.row (fun k hk => Below.heap_alloc _ _ _ (own_lt h.row k hk))
  obtain ⟨v2, w2, hrun, h2, h3, h4, h5⟩ := run_append_own_at (P := Try.prog) (W.alloc (.cells #[.int .i64 x] 3 (0, 0))) base 44 44 3 i0 (.int .i64 0) 1 8 Try.underlying44 hi hz0 hz1 hz2 rfl (by decide) v xs.length _ hown
    ⟨W.heap.size, 0, none⟩ 1 1 [.int .i64 x] rfl (cell_one_new _ _ _) (fun u hu => by rw [List.mem_singleton] at hu; subst hu; rfl) (by simp only [maxLen]; omega) (by omega) (by simp; have := h.base; omega)
  have hsz : W.heap.size + 1 ≤ w2.heap.size := by have := h3.size; simpa using this
  have hkeep : ∀ k, k < W.heap.size → (∀ g, v.ownBlock = some g → k ≠ g) → w2.heap[k]? = W.heap[k]? := fun k hk hne =>
    (h3.block k (by simp; omega) (fun e => hne k e.symm rfl)).trans (Below.heap_alloc _ _ _ hk)
  have hbn : Blk w2 bn #[v] 44 := by
    have := h.now
    have hl := Blk.lt this
    unfold Blk at *
    rw [hkeep bn hl (fun g hg => Ne.symm (h.own g hg).2.1)]
    exact this
  have hset : ∀ k, k ≠ bn → (w2.setCell ⟨bn, 0, none⟩ v2).heap[k]? = w2.heap[k]? := fun k hk => Below.heap_setCell _ _ _ _ (by simpa using hk)
  have hnew : ∀ k, v2.ownBlock = some k → (O k ∨ (W.heap.size ≤ k ∧ k < w2.heap.size)) ∧ k ≠ bn ∧ k ≠ yb ∧ k ≠ bm := fun k hk => by
    have hlt2 := own_lt h2 k hk
    rcases h5 with h5 | h5
    · rw [h5] at hk
      have := h.own k hk
      exact ⟨Or.inl this.1, this.2⟩
    · rw [h5] at hk
      simp only [World.size_alloc, Option.some.injEq] at hk
      have e1 := h.now.lt
      have e2 := h.yl.lt
      have e3 := h.mo.lt
      exact ⟨Or.inr ⟨by omega, hlt2⟩, by omega, by omega, by omega⟩
  refine ⟨v2, w2, hrun, hbn, ⟨?_, ?_, hnew, ?_, ?_, Or.inl h.on, Or.inl h.oy, Or.inl h.om, h.ny, h.nm, ?_, ?_, ?_⟩, ⟨?_, ?_, ?_, ?_, ?_⟩⟩
  · have := hbn.setCell 0 v2
    simpa using this
  · rw [nums_append]
    have e : (xs ++ [x]).length = xs.length + 1 := by simp
    rw [e]
    refine own_move h2 (fun k hk => hset k (hnew k hk).2.1)
  · have := h.yl
    have hl := Blk.lt this
    unfold Blk at *
    rw [hset yb (Ne.symm h.ny), hkeep yb hl (fun g hg => Ne.symm (h.own g hg).2.2.1)]
    exact this
  · have := h.mo
    have hl := Blk.lt this
    unfold Blk at *
    rw [hset bm (Ne.symm h.nm), hkeep bm hl (fun g hg => Ne.symm (h.own g hg).2.2.2)]
    exact this
  · intro k hk
    rcases hk with hk | hk
    · exact h.low k hk
    · exact Nat.le_trans h.base hk.1
  · have := h.base
    simp; omega
  · intro k hk
    rcases hk with hk | hk
    · have := h.lt k hk
      simp; omega
    · simpa using hk.2
  · show w2.os = W.os
    exact h3.os
  · show w2.tape = W.tape
    exact h3.tape
  · show w2.output = W.output
    exact h3.output
  · simp; omega
  · intro k hk hn
    rw [hset k (fun e => hn (e ▸ h.on))]
    exact hkeep k hk (fun g hg e => hn (e ▸ (h.own g hg).1))
theorem now_pop {W : World} {base l bt bn yb bm : Nat} {O : Nat → Prop} {g cap : Nat} {xs : List Int} {x : Int} (h : Now W base l bt bn yb bm O (.slice (some ⟨g, 0, none⟩) (xs ++ [x]).length cap) (xs ++ [x])) :
    Now (W.setCell ⟨bn, 0, none⟩ (.slice (some ⟨g, 0, none⟩) xs.length cap)) base l bt bn yb bm O (.slice (some ⟨g, 0, none⟩) xs.length cap) xs ∧ Chg O W (W.setCell ⟨bn, 0, none⟩ (.slice (some ⟨g, 0, none⟩) xs.length cap)) := by
  have hset : ∀ k, k ≠ bn → (W.setCell ⟨bn, 0, none⟩ (.slice (some ⟨g, 0, none⟩) xs.length cap)).heap[k]? = W.heap[k]? := fun k hk => Below.heap_setCell _ _ _ _ (by simpa using hk)
  have hown := h.own g rfl
  refine ⟨⟨?_, ?_, fun k hk => ?_, ?_, ?_, h.on, h.oy, h.om, h.ny, h.nm, h.low, ?_, fun k hk => by simpa using h.lt k hk⟩, ⟨rfl, rfl, rfl, by simp, fun k _ hn => hset k (fun e => hn (e ▸ h.on))⟩⟩
  · have := h.now.setCell 0 (.slice (some ⟨g, 0, none⟩) xs.length cap)
    simpa using this
  · exact own_move (row_back h.row) (fun k hk => hset k (by
      simp only [Value.ownBlock, Option.some.injEq] at hk
      subst hk; exact hown.2.1))
  · simp only [Value.ownBlock, Option.some.injEq] at hk
    subst hk; exact hown
  · have := h.yl
    unfold Blk at *
    rw [hset yb (Ne.symm h.ny)]; exact this
  · have := h.mo
    unfold Blk at *
    rw [hset bm (Ne.symm h.nm)]; exact this
  · have := h.base
    simpa using this
theorem KQ.chg {K O : Nat → Prop} {A B : World} {base : Nat} (h : Chg O A B) (hK : ∀ k, K k → k < base) (hO : ∀ k, O k → base ≤ k) (hb : base ≤ A.heap.size) : KQ K A B := fun k hk =>
  h.block k (Nat.lt_of_lt_of_le (hK k hk) hb) (fun ho => by have := hK k hk; have := hO k ho; omega)
theorem KQ.below {K : Nat → Prop} {A B : World} {base : Nat} (h : Below A.heap.size A B) (hK : ∀ k, K k → k < base) (hb : base ≤ A.heap.size) : KQ K A B := fun k hk => h.block k (Nat.lt_of_lt_of_le (hK k hk) hb)
theorem slice_back {n cap g : Nat} (hn : n + 1 ≤ cap) (hc : n ≤ 1000000) (W : World) :
    (Instr.slice 44 (.slice (some ⟨g, 0, none⟩) (n + 1) cap) none (some (.int .i64 (n : Int))) none).run Try.prog W = .ok (.slice (some ⟨g, 0, none⟩) n cap) W := by
  obtain ⟨i0, hi, hz0, hz1, hz2⟩ := info_parts info_i
  have h := (print_take_of (P := Try.prog) (Value.int .i64) 0 44 3 .i64 Try.underlying44 hi hz1 (some ⟨g, 0, none⟩) cap (List.replicate (n + 1) (0 : Int)) (n : Int) (by omega) (by simp; omega) (by simpa using hn)).1 W
  simpa using h
end Go.Proofs.Yteigcddmbpfahaa.Cn
