/- Texts of one claim joined into one: words and contracts. -/
import Derived.Test.YteigcddmbpfahaaC3
import Derived.MapKept
import Derived.Laws.StructEq
import Derived.Test.YteigcddmbpfahaaPcx
import Derived.OrdersHeld
import Derived.OrdersIn
import Derived.Deep.RegionHeld
import Derived.OwnWalkIn
section
namespace Go.Proofs.Yteigcddmbpfahaa.Cn
open Go.RowKit
set_option linter.unusedVariables false
structure KeyOk (P : Program) (kt : TypeId) {α : Type} (enc : α → Value) : Prop where
  chk : ∀ (e : Bool) (a : α) (w : World), (Instr.checkKey e 10000 kt (enc a)).run P w = .ok () w
  eq : ∀ (a b : α) (w : World), ∃ r : Bool, (Op.equal kt (enc a) (enc b)).run P w = .ok r w ∧ (r = true ↔ a = b)
  und : ∃ d, P.underlying kt = some d ∧ ∀ a b : α, Instr.sameNow d (enc a) (enc b) = none

def MapAt {α : Type} (enc : α → Value) (w : World) (m : Nat) (L : List (α × Value)) : Prop :=
  ∃ (es : Array MapEntry) (clock : Nat), w.heap[m]? = some (.map es clock) ∧ es.toList.map (fun e => (e.key, e.val)) = L.map (fun p => (enc p.1, p.2))
def asc {α : Type} [DecidableEq α] (a : α) : List (α × Value) → Option Value
  | [] => none
  | p :: L => if a = p.1 then some p.2 else asc a L
theorem asc_append {α : Type} [DecidableEq α] (a b : α) (v : Value) : ∀ L : List (α × Value), asc a L = none → asc a (L ++ [(b, v)]) = if a = b then some v else none
  | [], _ => rfl
  | p :: L, h => by
    simp only [asc] at h
    split at h
    · cases h
    · rename_i hn
      simp only [List.cons_append, asc, if_neg hn]
      exact asc_append a b v L h
theorem asc_append_some {α : Type} [DecidableEq α] (a b : α) (v u : Value) : ∀ L : List (α × Value), asc a L = some u → asc a (L ++ [(b, v)]) = some u
  | [], h => by cases h
  | p :: L, h => by
    simp only [asc] at h
    simp only [List.cons_append, asc]
    split at h
    · rename_i hn; rw [if_pos hn]; exact h
    · rename_i hn; rw [if_neg hn]; exact asc_append_some a b v u L h

theorem findAsking_run {P : Program} {kt : TypeId} {α : Type} [DecidableEq α] {enc : α → Value} (hk : KeyOk P kt enc) (a : α) (w : World) :
    ∀ (es : List MapEntry) (L : List (α × Value)) (i : Nat), es.map (fun e => (e.key, e.val)) = L.map (fun p => (enc p.1, p.2)) →
      ∃ o : Option (Nat × Value), (Instr.findAsking kt (enc a) es i).run P w = .ok o w ∧ o.map (·.2) = asc a L
  | [], [], i, _ => ⟨none, rfl, rfl⟩
  | [], _ :: _, _, h => by cases h
  | _ :: _, [], _, h => by cases h
  | e :: es, p :: L, i, h => by
    simp only [List.map_cons, List.cons.injEq, Prod.mk.injEq] at h
    obtain ⟨⟨h1, h2⟩, h3⟩ := h
    obtain ⟨r, hr, hiff⟩ := hk.eq a p.1 w
    rw [← h1] at hr
    cases r with
    | true =>
      refine ⟨some (i, e.val), by simp [Instr.findAsking, hr, Result.andThen], ?_⟩
      rw [asc, if_pos (hiff.1 rfl), h2]; rfl
    | false =>
      obtain ⟨o, ho, hv⟩ := findAsking_run hk a w es L (i + 1) h3
      refine ⟨o, by simp [Instr.findAsking, hr, Result.andThen, ho], ?_⟩
      rw [asc, if_neg (fun hh => by have := hiff.2 hh; cases this)]; exact hv
theorem findKey_run {P : Program} {kt : TypeId} {α : Type} [DecidableEq α] {enc : α → Value} (hk : KeyOk P kt enc) (a : α) (w : World) (es : List MapEntry) (L : List (α × Value))
    (h : es.map (fun e => (e.key, e.val)) = L.map (fun p => (enc p.1, p.2))) : ∃ o : Option (Nat × Value), (Instr.findKey kt (enc a) es).run P w = .ok o w ∧ o.map (·.2) = asc a L := by
  obtain ⟨d, hd, hs⟩ := hk.und
  cases es with
  | nil =>
    cases L with
    | nil => exact ⟨none, by simp [Instr.findKey, run_underlying hd, Result.andThen, Instr.findNow], rfl⟩
    | cons p L => cases h
  | cons e es =>
    cases L with
    | nil => cases h
    | cons p L =>
      have h' := h
      simp only [List.map_cons, List.cons.injEq, Prod.mk.injEq] at h'
      have hn : Instr.findNow d (enc a) (e :: es) 0 = none := by
        simp only [Instr.findNow]
        rw [h'.1.1, hs a p.1]
      obtain ⟨o, ho, hv⟩ := findAsking_run hk a w (e :: es) (p :: L) 0 h
      exact ⟨o, by simp [Instr.findKey, run_underlying hd, Result.andThen, hn, ho], hv⟩

theorem look_none {P : Program} {w : World} {m : Nat} {t kt et : TypeId} {z : Value} {α : Type} [DecidableEq α] {enc : α → Value} {L : List (α × Value)} {a : α} (hk : KeyOk P kt enc)
    (ht : P.underlying t = some (.map kt et)) (hz : (zeroValue et).run P w = .ok z w) (h : MapAt enc w m L) (ha : asc a L = none) :
    (Instr.lookup t (.map (some m)) (enc a) true).run P w = .ok (.tuple #[z, .bool false]) w := by
  obtain ⟨es, clock, h1, h2⟩ := h
  obtain ⟨o, ho, hv⟩ := findKey_run hk a w es.toList L h2
  rw [ha] at hv
  have ho' : o = none := by cases o with
    | none => rfl
    | some x => cases hv
  subst ho'
  simp [Instr.lookup, run_underlying ht, MapKept.run_getObj_map h1, hk.chk, ho, hz, Result.andThen]
theorem look_some {P : Program} {w : World} {m : Nat} {t kt et : TypeId} {v : Value} {α : Type} [DecidableEq α] {enc : α → Value} {L : List (α × Value)} {a : α} (hk : KeyOk P kt enc)
    (ht : P.underlying t = some (.map kt et)) (h : MapAt enc w m L) (ha : asc a L = some v) :
    (Instr.lookup t (.map (some m)) (enc a) true).run P w = .ok (.tuple #[v, .bool true]) w := by
  obtain ⟨es, clock, h1, h2⟩ := h
  obtain ⟨o, ho, hv⟩ := findKey_run hk a w es.toList L h2
  rw [ha] at hv
  obtain ⟨i, u⟩ | _ := o
  · cases hv
  · rename_i x
    obtain ⟨i, u⟩ := x
    simp only [Option.map_some, Option.some.injEq] at hv
    subst hv
    simp [Instr.lookup, run_underlying ht, MapKept.run_getObj_map h1, hk.chk, ho, Result.andThen]
theorem kbc {w w' : World} {p : Addr} {v : Value} (hb : Below w.heap.size w w') (h : w.cell? p = some v) : w'.cell? p = some v :=
  (hb.cell (World.block_lt_of_cell? w _ h)).trans h
structure But (m : Nat) (w w' : World) : Prop where
  os : w'.os = w.os
  tape : w'.tape = w.tape
  output : w'.output = w.output
  size : w.heap.size ≤ w'.heap.size
  block : ∀ k, k < w.heap.size → k ≠ m → w'.heap[k]? = w.heap[k]?
theorem But.refl (m : Nat) (w : World) : But m w w := ⟨rfl, rfl, rfl, Nat.le_refl _, fun _ _ _ => rfl⟩
theorem But.trans {m : Nat} {a b c : World} (h : But m a b) (k : But m b c) : But m a c :=
  ⟨k.os.trans h.os, k.tape.trans h.tape, k.output.trans h.output, Nat.le_trans h.size k.size, fun i hi hm => (k.block i (Nat.lt_of_lt_of_le hi h.size) hm).trans (h.block i hi hm)⟩
theorem But.of_below {m B : Nat} {a b : World} (h : Below B a b) (hB : a.heap.size ≤ B) : But m a b := ⟨h.os, h.tape, h.output, h.size, fun k hk _ => h.block k (by omega)⟩
theorem But.drew {m : Nat} {a b : World} (h : But m a b) : But m a b.drew := ⟨h.os, h.tape, h.output, h.size, h.block⟩
theorem But.below {m : Nat} {a b : World} (h : But m a b) : Below (min m a.heap.size) a b := ⟨h.os, h.tape, h.output, h.size, fun k hk => h.block k (by omega) (by omega)⟩
theorem But.then_below {m n : Nat} {a b c : World} (h : But m a b) (k : Below n b c) (hn : a.heap.size ≤ n) : But m a c :=
  ⟨k.os.trans h.os, k.tape.trans h.tape, k.output.trans h.output, Nat.le_trans h.size k.size, fun i hi hm => (k.block i (by omega)).trans (h.block i hi hm)⟩
theorem But.blk {m n : Nat} {a b : World} {cs : Array Value} {t : TypeId} (h : But m a b) (hb : Blk a n cs t) (hm : n ≠ m) : Blk b n cs t := by
  have hl := Blk.lt hb
  unfold Blk at *
  exact (h.block n hl hm).trans hb
theorem upd_new {P : Program} {w : World} {m : Nat} {t kt et : TypeId} {α : Type} [DecidableEq α] {enc : α → Value} {L : List (α × Value)} {a : α} (v : Value) (hk : KeyOk P kt enc)
    (ht : P.underlying t = some (.map kt et)) (h : MapAt enc w m L) (ha : asc a L = none) :
    ∃ w', (Instr.mapUpdate t (.map (some m)) (enc a) v).run P w = .ok () w' ∧ MapAt enc w' m (L ++ [(a, v)]) ∧ But m w w' ∧ w'.heap.size = w.heap.size := by
  obtain ⟨es, clock, h1, h2⟩ := h
  obtain ⟨o, ho, hv⟩ := findKey_run hk a w es.toList L h2
  rw [ha] at hv
  have ho' : o = none := by cases o with
    | none => rfl
    | some x => cases hv
  subst ho'
  refine ⟨{ w with heap := w.heap.setIfInBounds m (.map (es.push { key := enc a, val := v, born := clock }) (clock + 1)) }, by
    simp [Instr.mapUpdate, run_underlying ht, MapKept.run_getObj_map h1, hk.chk, ho, MapKept.run_setObj_map _ h1, Result.andThen], ?_, ?_, by simp⟩
  · exact ⟨_, _, (MapKept.heap_set h1).1, by simp [h2]⟩
  · exact ⟨rfl, rfl, rfl, by simp, fun k _ hk' => (MapKept.heap_set h1).2 k hk'⟩
theorem MapAt.new {α : Type} (enc : α → Value) (w : World) : MapAt enc (w.alloc (.map #[] 0)) w.heap.size [] := ⟨#[], 0, (MapKept.heap_alloc w _).1, rfl⟩
theorem MapAt.keep {α : Type} {enc : α → Value} {w w' : World} {m : Nat} {L : List (α × Value)} (h : MapAt enc w m L) (he : w'.heap[m]? = w.heap[m]?) : MapAt enc w' m L := by
  obtain ⟨es, c, h1, h2⟩ := h
  exact ⟨es, c, he.trans h1, h2⟩
theorem MapAt.lt {α : Type} {enc : α → Value} {w : World} {m : Nat} {L : List (α × Value)} (h : MapAt enc w m L) : m < w.heap.size := by
  obtain ⟨es, c, h1, h2⟩ := h
  exact (Array.getElem?_eq_some_iff.1 h1).1
theorem MapAt.below {α : Type} {enc : α → Value} {w w' : World} {m : Nat} {L : List (α × Value)} (h : MapAt enc w m L) (hb : Below w.heap.size w w') : MapAt enc w' m L := h.keep (hb.block m h.lt)
theorem MapAt.drew {α : Type} {enc : α → Value} {w : World} {m : Nat} {L : List (α × Value)} (h : MapAt enc w m L) : MapAt enc w.drew m L := h
end Go.Proofs.Yteigcddmbpfahaa.Cn
end
section
namespace Go.Proofs.Yteigcddmbpfahaa.Cn
set_option linter.unusedVariables false
open Go.RowKit Go.Proofs.YteigcddmbpfahaaW.PrintWords Go.Proofs.YteigcddmbpfahaaW.PrintLast Go.Proofs.YteigcddmbpfahaaW.PrintMore Go.Proofs.Yteigcddmbpfahaa.Pc
def encS (k : Int × Int × Bool) : Value := .agg #[.int .i64 k.1, .int .i64 k.2.1, .bool k.2.2]
theorem eqS (d : Nat) (w : World) (x0 y0 : Int) (x1 y1 : Int) (x2 y2 : Bool) :
    (Op.equalIn (d + 2) 135 (.agg #[.int .i64 x0, .int .i64 x1, .bool x2]) (.agg #[.int .i64 y0, .int .i64 y1, .bool y2])).run Try.prog w = .ok (x0 == y0 && (x1 == y1 && (x2 == y2))) w := by
  refine eqA_of Try.underlying135 (by kernel_rfl) ?_
  refine eqf_cons (by rfl) (by go_simp; rfl) (by go_simp; rfl) (by go_simp) ?_
  refine eqf_cons (by rfl) (by go_simp; rfl) (by go_simp; rfl) (by go_simp) ?_
  exact eqf_last (by rfl) (by go_simp; rfl) (by go_simp; rfl) (by go_simp)
theorem chkS (e : Bool) (n : Nat) (w : World) (i l : Int) (b : Bool) : (Instr.checkKey e (n + 2) 135 (.agg #[.int .i64 i, .int .i64 l, .bool b])).run Try.prog w = .ok () w := by
  rw [Instr.checkKey]
  simp only [Sem.run_bind, run_underlying Try.underlying135, Result.andThen_ok]
  simp [Instr.checkKey, go_sem]
theorem key_site : KeyOk Try.prog 135 encS where
  chk := fun e a w => chkS e 9998 w _ _ _
  eq := fun a b w => ⟨_, eqS 9998 w _ _ _ _ _ _, by obtain ⟨i, l, e⟩ := a; obtain ⟨i', l', e'⟩ := b; simp⟩
  und := ⟨_, Try.underlying135, fun _ _ => rfl⟩
end Go.Proofs.Yteigcddmbpfahaa.Cn
end
section
namespace Go.Proofs.Yteigcddmbpfahaa.Cn
open Go.RowKit
set_option linter.unusedVariables false
structure Chg (O : Nat → Prop) (A B : World) : Prop where
  os : B.os = A.os
  tape : B.tape = A.tape
  output : B.output = A.output
  size : A.heap.size ≤ B.heap.size
  block : ∀ k, k < A.heap.size → ¬ O k → B.heap[k]? = A.heap[k]?
theorem Chg.refl (O : Nat → Prop) (A : World) : Chg O A A := ⟨rfl, rfl, rfl, Nat.le_refl _, fun _ _ _ => rfl⟩
theorem Chg.trans {O O' : Nat → Prop} {A B C : World} (h : Chg O A B) (k : Chg O' B C) (hO : ∀ j, O' j → O j ∨ A.heap.size ≤ j) : Chg O A C :=
  ⟨k.os.trans h.os, k.tape.trans h.tape, k.output.trans h.output, Nat.le_trans h.size k.size, fun i hi hn => (k.block i (Nat.lt_of_lt_of_le hi h.size) (fun ho => by rcases hO i ho with g | g; exact hn g; omega)).trans (h.block i hi hn)⟩
theorem Chg.of_below {O : Nat → Prop} {A B : World} (h : Below A.heap.size A B) : Chg O A B := ⟨h.os, h.tape, h.output, h.size, fun k hk _ => h.block k hk⟩
theorem Chg.cell {O : Nat → Prop} {A B : World} (h : Chg O A B) {p : Addr} {v : Value} (hc : A.cell? p = some v) (hp : ¬ O p.block) : B.cell? p = some v := by
  have hl := World.block_lt_of_cell? A p hc
  unfold World.cell? at hc ⊢
  rw [h.block _ hl hp]; exact hc
structure Held (b : Nat) (O : Nat → Prop) (A B : World) : Prop where
  os : B.os = A.os
  tape : B.tape = A.tape
  output : B.output = A.output
  size : A.heap.size ≤ B.heap.size
  cells : ∀ k o, A.heap[k]? = some o → o.isCells = true → ¬ O k → B.heap[k]? = some o
  low : ∀ k, k < b → B.heap[k]? = A.heap[k]?

def SeqO {α : Type} (n : Nat) (P : Program) (g : Nat) (lb : Array Value) (encs : α → Array Value) (Cx : List α → α → World → Prop) (Kp : World → World → Prop) (S : List α → Prop) (w : World) : Prop :=
  ∀ (l : Nat) (J : (Nat → Prop) → List α → World → Prop) (W : World), Below w.heap.size w W →
    (∀ O O' pre A B, J O pre A → Chg O A B → (∀ k, O' k → O k ∨ A.heap.size ≤ k) → J O' pre B) →
    (∀ O pre x W1, J O pre W1 → Cx pre x W1 → (∀ k, O k → k < W1.heap.size) → YieldAt Fence.wide (n - 1) P l (encs x) W1 fun e W' => e = .returned (.bool true) ∧ J O (pre ++ [x]) W' ∧ Kp W1 W' ∧ ∀ k, O k → W'.heap[k]? = W1.heap[k]?) →
    J (fun _ => False) [] W →
    CallsIn Fence.wide n P g (#[.func (.yield l) #[] #[]] ++ lb) W fun e W' => (∃ v, e = .returned v) ∧ ∃ xs O, S xs ∧ J O xs W'

def bodyPostO (B : Nat) (Kp : World → World → Prop) (O : Nat → Prop) (I : World → Prop) (W : World) : Exit → Act → World → Prop
  | .normal, _, W' => KeepsFrom B W W' ∧ Kp W W' ∧ (∀ k, O k → W'.heap[k]? = W.heap[k]?) ∧ I W'
  | _, _, _ => False

theorem wp_rangeO {P : Program} {n : Nat} {α : Type} {g : Operand} {ps : Array Tmp} {assign body : Code} {Q : Exit → Act → World → Prop} {a : Act} {w : World}
    {gf : Nat} {lb : Array Value} (hg : a.eval g = .func (.func gf) #[] lb) (eg : ∀ args w, (callFunc gf args).run P w = .ok (.enter gf args) w)
    {encs : α → Array Value} {Cx : List α → α → World → Prop} {Kp : World → World → Prop} {S : List α → Prop} {w0 : World} (hseq : SeqO (n - 1) P gf lb encs Cx Kp S w0)
    (hKt : ∀ {A B C : World}, Kp A B → Kp B C → Kp A C) (hKb : ∀ (W : World) (l : Nat) (o o' : Obj), w.heap.size ≤ l → W.heap[l]? = some o → o.isCells = false → Kp W (W.putObj l o'))
    (hCx : ∀ (pre : List α) (x : α) (W : World) (l : Nat) (o o' : Obj), w.heap.size ≤ l → W.heap[l]? = some o → o.isCells = false → Cx pre x W → Cx pre x (W.putObj l o'))
    (hb0 : Below w0.heap.size w0 w) (hps : ∀ x, (encs x).size = ps.size)
    (I : (Nat → Prop) → List α → World → Prop) (hI : ∀ O O' pre A B, I O pre A → Held w.heap.size O A B → (∀ k, O' k → O k ∨ A.heap.size ≤ k) → I O' pre B) (h0 : I (fun _ => False) [] w) (a₁ : α → Act)
    (hassign : ∀ (l : Nat) (x : α) (W : World) (K : Act → World → Prop), K (a₁ x) W →
      assign.wpIn (Fence.wide.inRound l) (n - 1 - 1) P (Exit.then K (fun _ _ _ => False)) { tmps := (ps.zip (encs x)).foldl (fun t (p, v) => t.setIfInBounds p v) a.tmps, defers := [] } W)
    (hbody : ∀ (l : Nat) (O : Nat → Prop) (pre : List α) (x : α) (W : World), I O pre W → Cx pre x W → (∀ k, O k → w.heap.size ≤ k ∧ k < W.heap.size) → w.heap.size ≤ W.heap.size → body.wpIn (Fence.wide.inRound l) (n - 1 - 1) P (bodyPostO w.heap.size Kp O (I O (pre ++ [x])) W) (a₁ x) W)
    (hdone : ∀ (D : Nat) (O : Nat → Prop) (xs : List α) (W : World), w.heap.size ≤ D → S xs → I O xs W → W.heap[D]? = some (.deferred (some [])) → Q .normal { a with defers := { target := .collected D, args := #[] } :: a.defers } W) :
    (Code.rangeFunc g ps assign body).wp P Q a w := by
  refine (wpIn_wide (n := n)).1 ?_
  refine wpIn_rangeFunc ?_
  intro fn hfn
  obtain ⟨rec, hrec⟩ : ∃ rec : LoopState → Option Code → Loop, rec = fun st pe => { state := st, pending := pe, fn, tmps := a.tmps, params := ps, assign, body, defers := w.heap.size } := ⟨_, rfl⟩
  obtain ⟨W1, hW1⟩ : ∃ W1, (w.alloc (.deferred (some []))).alloc (.loop (rec .ready none)) = W1 := ⟨_, rfl⟩
  have hL1 : W1.heap[w.heap.size + 1]? = some (.loop (rec .ready none)) := by
    rw [← hW1]; have := World.alloc_heap_new (w.alloc (.deferred (some []))) (.loop (rec .ready none)); rwa [World.size_alloc] at this
  have hK1 : W1.heap[w.heap.size]? = some (.deferred (some [])) := by
    rw [← hW1]; exact (Below.heap_alloc _ _ _ (by simp)).trans (World.alloc_heap_new w _)
  have hwW1 : Below w.heap.size w W1 := by rw [← hW1]; exact ((Below.refl _ w).alloc (Nat.le_refl _) _).alloc (by simp) _
  have hb1 : Below w0.heap.size w0 W1 := hb0.trans (hwW1.mono hb0.size)
  have hsz1 : W1.heap.size = w.heap.size + 2 := by rw [← hW1]; simp
  have hI1 : I (fun _ => False) [] W1 := hI _ _ _ _ _ h0 ⟨hwW1.os, hwW1.tape, hwW1.output, hwW1.size, fun k o hk _ _ => (hwW1.block k (Array.getElem?_eq_some_iff.1 hk).1).trans hk, fun k hk => hwW1.block k hk⟩ (fun k hk => hk.elim)
  -- the loop's own record changes: nothing that I may speak of
  have hIl : ∀ (O : Nat → Prop) (pre : List α) (W : World) (o o' : Obj), I O pre W → W.heap[w.heap.size + 1]? = some o → o.isCells = false → I O pre (W.putObj (w.heap.size + 1) o') := fun O pre W o o' hi ho hoc =>
    hI _ _ _ _ _ hi ⟨rfl, rfl, rfl, by simp [World.putObj], fun k q hk hqc _ => by
      have hne : k ≠ w.heap.size + 1 := fun e => by rw [e, ho] at hk; cases hk; rw [hoc] at hqc; cases hqc
      exact (World.putObj_heap_other hne).trans hk, fun k hk => World.putObj_heap_other (by omega)⟩ (fun k hk => Or.inl hk)
  refine ⟨w.heap.size + 1, [{ target := .collected w.heap.size, args := #[] }], W1, { target := .fn (.func gf) lb, args := #[.func (.yield (w.heap.size + 1)) #[] #[]] }, W1, gf,
    #[.func (.yield (w.heap.size + 1)) #[] #[]] ++ lb, W1, ?_, ?_, ?_, ?_, fun h => by simp [Fence.wide] at h, ?_⟩
  · rw [← hW1, hrec]; exact run_enterLoop_outer _ _ _ _ _
  · simp only [resolve, hg]
    simp [go_sem]
  · intro f' _; trivial
  · simp [invoke, go_sem, eg]
  · refine (hseq (w.heap.size + 1)
      (fun O pre W => I O pre W ∧ W.heap[w.heap.size + 1]? = some (.loop (rec .ready none)) ∧ W.heap[w.heap.size]? = some (.deferred (some [])) ∧ ∀ k, O k → w.heap.size + 2 ≤ k)
      W1 hb1
      (fun O O' pre A B ⟨g1, g2, g3, g4⟩ hc hO => by
        have hlt : w.heap.size + 1 < A.heap.size := (Array.getElem?_eq_some_iff.1 g2).1
        refine ⟨hI _ _ _ _ _ g1 ⟨hc.os, hc.tape, hc.output, hc.size, fun k o hk _ hn => (hc.block k (Array.getElem?_eq_some_iff.1 hk).1 hn).trans hk, fun k hk => hc.block k (by omega) (fun h => by have := g4 k h; omega)⟩ hO, ?_, ?_, ?_⟩
        · exact (hc.block _ hlt (fun h => by have := g4 _ h; omega)).trans g2
        · exact (hc.block _ (by omega) (fun h => by have := g4 _ h; omega)).trans g3
        · intro k hk
          rcases hO k hk with h | h
          · exact g4 k h
          · omega)
      ?_ ⟨hI1, hL1, hK1, fun k hk => hk.elim⟩).mono ?_
    · rintro O pre x W ⟨hi, hl, hk, hO⟩ hcx hOlt
      have hlt : w.heap.size + 1 < W.heap.size := (Array.getElem?_eq_some_iff.1 hl).1
      have hy := run_yield (P := P) (args := encs x) hl (by rw [hrec]; exact hps x)
      rw [hrec] at hy
      refine ⟨fn, _, assign, body, hy, roundIn_of_wpIn hfn (hassign _ x W _ ⟨_, run_beginRound hl (by rw [hrec]), ?_⟩)⟩
      have hl2 : (W.putObj (w.heap.size + 1) (.loop { rec .ready none with state := .busy })).heap[w.heap.size + 1]? = some (.loop { rec .ready none with state := .busy }) := World.putObj_heap_same hlt
      have hk2 : (W.putObj (w.heap.size + 1) (.loop { rec .ready none with state := .busy })).heap[w.heap.size]? = some (.deferred (some [])) := (World.putObj_heap_other (by omega)).trans hk
      have hw2 : Kp W (W.putObj (w.heap.size + 1) (.loop { rec .ready none with state := .busy })) := hKb _ _ _ _ (by omega) hl rfl
      refine wpIn_mono (hbody _ O pre x _ (hIl _ _ _ _ _ hi hl rfl) (hCx _ _ _ _ _ _ (by omega) hl rfl hcx) (fun k hk => by have := hO k hk; have := hOlt k hk; simp [World.putObj]; omega) (by simp [World.putObj]; omega)) ?_
      rintro e a3 W3 hp
      cases e with
      | normal =>
        obtain ⟨hk3, hkp3, hO3, hi3⟩ := hp
        have hl3 := hk3.same _ _ (by omega) hl2 rfl
        have hr := run_endRound (P := P) none hl3
        have hl4 : (W3.putObj (w.heap.size + 1) (.loop (rec .ready none))).heap[w.heap.size + 1]? = some (.loop (rec .ready none)) := World.putObj_heap_same (Array.getElem?_eq_some_iff.1 hl3).1
        have hk4 : (W3.putObj (w.heap.size + 1) (.loop (rec .ready none))).heap[w.heap.size]? = some (.deferred (some [])) := (World.putObj_heap_other (by omega)).trans (hk3.same _ _ (Nat.le_refl _) hk2 rfl)
        have hO4 : ∀ k, O k → (W3.putObj (w.heap.size + 1) (.loop (rec .ready none))).heap[k]? = W.heap[k]? := fun k hk => by
          have := hO k hk
          rw [World.putObj_heap_other (by omega), hO3 k hk, World.putObj_heap_other (by omega)]
        rw [hrec] at hr hl4 hk4 hO4 ⊢
        refine ⟨_, _, hr, rfl, ⟨hIl _ _ _ _ _ hi3 hl3 rfl, hl4, hk4, hO⟩, hKt (hKt hw2 hkp3) (hKb _ _ _ _ (by omega) hl3 rfl), hO4⟩
      | ret => exact hp.elim
      | exit id => exact hp.elim
      | goto t => exact hp.elim
      | panic ch => exact hp.elim
      | outgrown => exact hp.elim
    · rintro e W2 ⟨⟨v, rfl⟩, xs, O, hS, hi, hl, hk, hO⟩
      exact ⟨none, _, by have := run_endLoop (P := P) hl (by rw [hrec]; simp); rw [hrec] at this; exact this, hdone _ O xs _ (Nat.le_refl _) hS (hIl _ _ _ _ _ hi hl rfl) ((World.putObj_heap_other (by omega)).trans hk)⟩
end Go.Proofs.Yteigcddmbpfahaa.Cn
end
section
namespace Go.Proofs.Yteigcddmbpfahaa.Cn
open Go.RowKit
set_option linter.unusedVariables false
section
variable {F : Fence} {n : Nat} {P : Program} {ops : Array Oper} {Q : Exit → Act → World → Prop} {S : World → Prop}
def KnownIn (P : Program) (ops : Array Oper) (S : World → Prop) (o : Oper) (v : Value) (a : Act) : Prop := YieldsIf P ops S o v a ∧ ∀ w, o.about P w a.eval = none

theorem KnownIn.step {i : Nat} {o : Oper} {v : Value} {a : Act} (hro : F.round = none) (hi : ops[i]? = some o) (hy : KnownIn P ops S o v a) {K : Act → World → Prop} {w : World} (hS : S w) (h : K (a.put o.dst v) w) :
    wpOpIn F n P ops Q i K a w := by
  unfold wpOpIn
  rw [hi]
  have hab : ∀ f, o.about P w a.eval = some f → F.fn f := fun f hf => by rw [hy.2 w] at hf; cases hf
  obtain ⟨⟨hw, hv⟩ | ⟨hw, rfl⟩, _⟩ := hy
  · simp only [hw, if_true, Oper.wpIn, hro, Oper.semAt_none, hv w hS, Oper.uponIn]
    exact ⟨hab, h⟩
  · simp only [hw, Bool.false_eq_true, if_false]
    exact ⟨hab, h⟩

theorem KnownIn.past {j : Nat} {oi oj : Oper} {v : Value} (hro : F.round = none) (hj : ops[j]? = some oj) (hap : oi.apart ops oj = true)
    (hsi : ∀ cs b, oi.op ≠ .select cs b) (hsj : ∀ cs b, oj.op ≠ .select cs b) (hQ : ∀ c a w, Q (.panic c) (a.put oi.dst v) w → Q (.panic c) a w)
    {K : Act → World → Prop} {a : Act} {w : World} (hy : KnownIn P ops S oi v a) (h : wpOpIn F n P ops Q j K (a.put oi.dst v) w) :
    wpOpIn F n P ops Q j (fun a' w' => KnownIn P ops S oi v a' ∧ K (a'.put oi.dst v) w') a w := by
  obtain ⟨h1, h2, h3⟩ := Oper.apart_spec hap
  have kp : ∀ b : Act, KnownIn P ops S oi v b → ∀ u, KnownIn P ops S oi v (b.put oj.dst u) := fun b hb u =>
    ⟨hb.1.of_same (execOp_put oi hsi b oj.dst u h3) (wanted_put oi b oj.dst u h3), fun w' => (about_put oi w' b oj.dst u h3).trans (hb.2 w')⟩
  have swap : ∀ (b : Act) (u : Value) (w' : World), K ((b.put oi.dst v).put oj.dst u) w' → K ((b.put oj.dst u).put oi.dst v) w' := fun b u w' hk => by
    rw [← Act.put_comm b v u h2]; exact hk
  unfold wpOpIn at h ⊢
  rw [hj] at h ⊢
  simp only at h ⊢
  rw [wanted_put oj a oi.dst v h1, about_put oj w a oi.dst v h1] at h
  split at h
  · rename_i hw
    rw [if_pos hw]
    unfold Oper.wpIn at h ⊢
    rw [about_put oj w a oi.dst v h1, hro, Oper.semAt_none, execOp_put oj hsj a oi.dst v h1] at h
    rw [hro, Oper.semAt_none]
    refine ⟨h.1, ?_⟩
    have h := h.2
    generalize (execOp a.eval oj).run P w = r at h ⊢
    cases r with
    | halt x w' => cases x <;> first | exact hQ _ _ _ h | exact h
    | ok x w' =>
      cases x <;> simp only [Oper.uponIn] at h ⊢
      case value u => exact ⟨kp a hy u, swap a u w' h⟩
      case skip => exact ⟨kp a hy undef, swap a undef w' h⟩
      case defer d =>
        have hd : KnownIn P ops S oi v { a with defers := d :: a.defers } := ⟨hy.1.of_same rfl rfl, hy.2⟩
        refine ⟨kp _ hd undef, swap _ undef w' ?_⟩
        rw [← Act.put_defers]; exact h
      case enter f args =>
        exact ⟨h.1, h.2.mono fun e w2 he => by
          cases e with
          | returned u => exact ⟨kp a hy u, swap a u w2 he⟩
          | panicked c => exact hQ _ _ _ he
          | outgrown => exact he⟩
      case row r args => exact ⟨h.1, RowsIn.mono h.2 fun u w2 he => ⟨kp a hy u, swap a u w2 he⟩⟩
      case round l f tmps assign body =>
        exact ⟨h.1, RoundIn.mono h.2 fun e w2 he => by
          cases e with
          | returned u => exact ⟨kp a hy u, swap a u w2 he⟩
          | panicked c => exact hQ _ _ _ he
          | outgrown => exact he⟩
  · rename_i hw
    rw [if_neg hw]
    exact ⟨h.1, kp a hy undef, swap a undef w h.2⟩

def HeldIn (F : Fence) (n : Nat) (P : Program) (ops : Array Oper) (Q : Exit → Act → World → Prop) (S : World → Prop) : Nat → Array Bool → Act → World → Prop
  | 0, l, a, w => Region.ready .any ops l = [] ∧ Q .normal a w
  | k + 1, l, a, w => (Region.ready .any ops l = [] → Q .normal a w) ∧
      ∀ i ∈ Region.ready .any ops l, wpOpIn F n P ops Q i (fun a' w' => S w' ∧ HeldIn F n P ops Q S k (l.setIfInBounds i true) a' w') a w
theorem HeldIn.any : ∀ (k : Nat) (l : Array Bool) (a : Act) (w : World), HeldIn F n P ops Q S k l a w → wpAnyIn F n P .any ops Q k l a w
  | 0, _, _, _, h => h
  | k + 1, _, _, _, h => ⟨h.1, fun i hi => wpOpIn_mono (fun a' w' h' => HeldIn.any k _ a' w' h'.2) (h.2 i hi)⟩

theorem HeldIn.first {i : Nat} {oi : Oper} {v : Value} (hro : F.round = none) (hi : ops[i]? = some oi) (hsel : ∀ (j : Nat) (o : Oper) cs b, ops[j]? = some o → o.op ≠ .select cs b)
    (hQ : ∀ c a w, Q (.panic c) (a.put oi.dst v) w → Q (.panic c) a w) : ∀ (k : Nat) (l : Array Bool) (a : Act) (w : World),
      (∀ j oj, ops[j]? = some oj → j ≠ i → l.getD j true = false → (∀ e ∈ oj.after, Region.binds .any e = true → e.on ≠ i) → oi.apart ops oj = true) →
      i ∈ Region.ready .any ops l → KnownIn P ops S oi v a → S w → HeldIn F n P ops Q S k (l.setIfInBounds i true) (a.put oi.dst v) w → HeldIn F n P ops Q S (k + 1) l a w := by
  intro k
  induction k with
  | zero =>
    intro l a w _ hr hy hS H
    refine ⟨fun h => (by rw [h] at hr; cases hr), fun j hj => ?_⟩
    rcases Classical.em (j = i) with e | e
    · subst e; exact hy.step hro hi hS ⟨hS, H⟩
    · have := ready_mono hj e
      rw [H.1] at this
      cases this
  | succ k ih =>
    intro l a w hfree hr hy hS H
    refine ⟨fun h => (by rw [h] at hr; cases hr), fun j hj => ?_⟩
    rcases Classical.em (j = i) with e | e
    · subst e; exact hy.step hro hi hS ⟨hS, H⟩
    · obtain ⟨hun, oj, hoj, hall⟩ := mem_ready.1 hj
      have hnot : ∀ x ∈ oj.after, Region.binds .any x = true → x.on ≠ i := fun x hx hb heq => by
        have g1 := hall x hx hb
        have g0 := (mem_ready.1 hr).1
        rw [heq] at g1
        rcases Nat.lt_or_ge i l.size with h' | h'
        · simp [h'] at g0 g1; rw [g0] at g1; cases g1
        · simp [Array.getElem?_eq_none h'] at g1
      refine wpOpIn_mono (fun a' w' h3 => ⟨h3.2.1, ih (l.setIfInBounds j true) a' w' (fun m om hm hmi hmu hno => hfree m om hm hmi ?_ hno) (ready_mono hr (Ne.symm e)) h3.1 h3.2.1 ?_⟩)
        (KnownIn.past hro hoj (hfree j oj hoj e hun hnot) (fun cs b => hsel i oi cs b hi) (fun cs b => hsel j oj cs b hoj) hQ hy (H.2 j (ready_mono hj e)))
      · rcases Classical.em (j = m) with q | q
        · subst q; exact hun
        · rw [getD_set_ne true q] at hmu; exact hmu
      · rw [Array.setIfInBounds_comm _ _ e]
        exact h3.2.2
theorem HeldIn.take {i : Nat} {oi : Oper} {v : Value} {k : Nat} {l : Array Bool} {a : Act} {w : World} (hro : F.round = none) (hi : ops[i]? = some oi)
    (hs : Region.noSelect ops = true) (hf : Region.free .any ops l i = true) (hr : (Region.ready .any ops l).contains i = true)
    (hQ : ∀ c a w, Q (.panic c) (a.put oi.dst v) w → Q (.panic c) a w) (hab : ∀ w, oi.about P w a.eval = none) (hy : YieldsIf P ops S oi v a) (hS : S w)
    (h : HeldIn F n P ops Q S k (l.setIfInBounds i true) (a.put oi.dst v) w) : HeldIn F n P ops Q S (k + 1) l a w :=
  HeldIn.first hro hi (Region.noSelect_spec hs) hQ k l a w (Region.free_spec hi hf) (by simpa using hr) ⟨hy, hab⟩ hS h
theorem HeldIn.done {l : Array Bool} {a : Act} {w : World} (hr : Region.ready .any ops l = []) (h : Q .normal a w) : ∀ k, HeldIn F n P ops Q S k l a w
  | 0 => ⟨hr, h⟩
  | _ + 1 => ⟨fun _ => h, by rw [hr]; simp⟩
theorem HeldIn.one {i : Nat} {o : Oper} {k : Nat} {l : Array Bool} {a : Act} {w : World} (hr : Region.ready .any ops l = [i]) (ho : ops[i]? = some o)
    (h : ∀ K' : Act → World → Prop, Shut (∀ a w, S w → (S w → HeldIn F n P ops Q S k (l.setIfInBounds i true) a w) → K' a w) →
      if Region.wanted o (yielded ops a.tmps) = true then Oper.wpIn F n P o a w K' Q else (∀ f, o.about P w a.eval = some f → F.fn f) ∧ K' (a.put o.dst undef) w) : HeldIn F n P ops Q S (k + 1) l a w := by
  refine ⟨fun h0 => (by rw [hr] at h0; cases h0), fun j hj => ?_⟩
  rw [hr, List.mem_singleton] at hj
  subst hj
  exact wpOpIn_step ho (fun K' hK => h K' (fun a w hS hW => hK a w ⟨hS, hW hS⟩))
theorem HeldIn.region {id : Nat} {a : Act} {w : World} (hm : P.follows .mixedOrders = true) (hS : S w.drew) (h : S w.drew → HeldIn F n P ops Q S ops.size (Array.replicate ops.size false) a w.drew) :
    (Code.region id ops true).wpIn F n P Q a w := wpIn_region_any hm (HeldIn.any _ _ _ _ (h hS))
theorem gate_in {rest : List Oper} {o : Oper} {a : Act} {w : World} {b : Builtin} {xs : Array Operand} {ts : Array TypeId} (ho : o.op = .call { callee := .builtin b, args := xs, argTypes := ts }) (h : wpListIn F n P ops Q (o :: rest) a w) : wpListIn F n P ops Q (o :: rest) a w := h
theorem wpListIn_append_eq {rest : List Oper} {o : Oper} {a : Act} {w w' : World} {v' : Value} (hgd : o.guard = none) (s x : Operand) (t : TypeId)
    (ho : o.op = .call { callee := .builtin .append, args := #[s, x], argTypes := #[t, t] }) (v y : Value) (hs : a.eval s = v) (hx : a.eval x = y)
    (hrun : (Builtin.append_ #[t, t] o.type #[v, y]).run P w = .ok v' w') (h : wpListIn F n P ops Q rest (a.put o.dst v') w') : wpListIn F n P ops Q (o :: rest) a w := by
  refine wpListIn_plain hgd fun K hK => ?_
  unfold Oper.wpIn
  refine ⟨by simp [Oper.about, ho, resolve, Target.leads, Sem.run_pure], ?_⟩
  rw [Oper.semAt_plain F _ _ (by rw [ho]; intro c hc'; cases hc')]
  simp [execOp, ho, resolve, invoke, builtin, hs, hx, hrun, Result.andThen]
  exact hK _ _ h
end
end Go.Proofs.Yteigcddmbpfahaa.Cn
end
