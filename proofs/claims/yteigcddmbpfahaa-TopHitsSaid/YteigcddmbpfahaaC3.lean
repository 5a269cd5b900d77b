/- Contracts of package count: the iterator of outcomes, tails, powers; arithmetic of bets. -/
import Derived.Test.YteigcddmbpfahaaProg
import Derived.RangeFuncNested
import Derived.RangeFuncBound
import Derived.RangeFuncCalls
import Derived.RangeFuncLeaves
import Derived.Shelf.Abstract
import Derived.Shelf.RegionOpen
import Derived.WalkKit
import Derived.OwnWalkIn
import Derived.TacticsInMore
import Derived.LoopNIn
import Derived.LoopIn
import Derived.Deep.RegionHeld3
import Derived.OrdersIn
import Derived.Test.YteigcddmbpfahaaC1
import Derived.Test.YteigcddmbpfahaaTk

namespace Go.Proofs.Yteigcddmbpfahaa.Cn
open Go.RowKit
set_option linter.unusedVariables false
def SeqC {α : Type} (n : Nat) (P : Program) (g : Nat) (lb : Array Value) (encs : α → Array Value) (Cx : List α → α → World → Prop) (Kp : World → World → Prop) (S : List α → Prop) (w : World) : Prop :=
  ∀ (l : Nat) (J : List α → World → Prop) (W : World), Below w.heap.size w W → AbidesFrom W.heap.size J →
    (∀ pre x W1, J pre W1 → Cx pre x W1 → YieldAt Fence.wide (n - 1) P l (encs x) W1 fun e W' => e = .returned (.bool true) ∧ J (pre ++ [x]) W' ∧ Kp W1 W') →
    J [] W →
    CallsIn Fence.wide n P g (#[.func (.yield l) #[] #[]] ++ lb) W fun e W' => (∃ v, e = .returned v) ∧ ∃ xs, S xs ∧ J xs W'

def bodyPostC {α : Type} (B : Nat) (Kp : World → World → Prop) (I : List α → World → Prop) (xs : List α) (W : World) : Exit → Act → World → Prop
  | .normal, _, W' => KeepsFrom B W W' ∧ Kp W W' ∧ I xs W'
  | _, _, _ => False

theorem wp_range {P : Program} {n : Nat} {α : Type} {g : Operand} {ps : Array Tmp} {assign body : Code} {Q : Exit → Act → World → Prop} {a : Act} {w : World}
    {gf : Nat} {lb : Array Value} (hg : a.eval g = .func (.func gf) #[] lb) (eg : ∀ args w, (callFunc gf args).run P w = .ok (.enter gf args) w)
    {encs : α → Array Value} {Cx : List α → α → World → Prop} {Kp : World → World → Prop} {S : List α → Prop} {w0 : World} (hseq : SeqC (n - 1) P gf lb encs Cx Kp S w0)
    (hKt : ∀ {A B C : World}, Kp A B → Kp B C → Kp A C) (hKb : ∀ (W : World) (l : Nat) (o o' : Obj), w.heap.size ≤ l → W.heap[l]? = some o → o.isCells = false → o.isWalk = false → Kp W (W.putObj l o'))
    (hCx : ∀ (pre : List α) (x : α) (W : World) (l : Nat) (o o' : Obj), w.heap.size ≤ l → W.heap[l]? = some o → o.isCells = false → Cx pre x W → Cx pre x (W.putObj l o'))
    (hb0 : Below w0.heap.size w0 w) (hps : ∀ x, (encs x).size = ps.size)
    (I : List α → World → Prop) (hI : OwnFrom w.heap.size I) (h0 : I [] w) (a₁ : α → Act)
    (hassign : ∀ (l : Nat) (x : α) (W : World) (K : Act → World → Prop), K (a₁ x) W →
      assign.wpIn (Fence.wide.inRound l) (n - 1 - 1) P (Exit.then K (fun _ _ _ => False)) { tmps := (ps.zip (encs x)).foldl (fun t (p, v) => t.setIfInBounds p v) a.tmps, defers := [] } W)
    (hbody : ∀ (l : Nat) (pre : List α) (x : α) (W : World), I pre W → Cx pre x W → body.wpIn (Fence.wide.inRound l) (n - 1 - 1) P (bodyPostC w.heap.size Kp I (pre ++ [x]) W) (a₁ x) W)
    (hdone : ∀ (D : Nat) (xs : List α) (W : World), w.heap.size ≤ D → S xs → I xs W → W.heap[D]? = some (.deferred (some [])) → Q .normal { a with defers := { target := .collected D, args := #[] } :: a.defers } W) :
    (Code.rangeFunc g ps assign body).wp P Q a w := by
  refine (wpIn_wide (n := n)).1 ?_
  refine wpIn_rangeFunc ?_
  intro fn hfn
  obtain ⟨rec, hrec⟩ : ∃ rec : LoopState → Option Code → Loop, rec = fun st pe => { state := st, pending := pe, fn, tmps := a.tmps, params := ps, assign, body, defers := w.heap.size } := ⟨_, rfl⟩
  obtain ⟨W1, hW1⟩ : ∃ W1, (w.alloc (.deferred (some []))).alloc (.loop (rec .ready none)) = W1 := ⟨_, rfl⟩
  have hL1 : W1.heap[w.heap.size + 1]? = some (.loop (rec .ready none)) := by
    rw [← hW1]; have := World.alloc_heap_new (w.alloc (.deferred (some []))) (.loop (rec .ready none)); rwa [World.size_alloc] at this
  have hK1 : W1.heap[w.heap.size]? = some (.deferred (some [])) := by
    rw [← hW1]; exact (Below.heap_alloc _ _ _ (by simp)).trans (World.alloc_heap_new w _)
  have hI1 : I [] W1 := by rw [← hW1]; exact hI.alloc _ (hI.alloc _ h0)
  have hb1 : Below w0.heap.size w0 W1 := by
    rw [← hW1]; exact hb0.trans ((((Below.refl _ w).alloc (Nat.le_refl _) _).alloc (by simp) _).mono hb0.size)
  refine ⟨w.heap.size + 1, [{ target := .collected w.heap.size, args := #[] }], W1, { target := .fn (.func gf) lb, args := #[.func (.yield (w.heap.size + 1)) #[] #[]] }, W1, gf,
    #[.func (.yield (w.heap.size + 1)) #[] #[]] ++ lb, W1, ?_, ?_, ?_, ?_, fun h => by simp [Fence.wide] at h, ?_⟩
  · rw [← hW1, hrec]; exact run_enterLoop_outer _ _ _ _ _
  · simp only [resolve, hg]
    simp [go_sem]
  · intro f' _; trivial
  · simp [invoke, go_sem, eg]
  · have hnw : ∀ {A B : World} {row : Option Nat}, (∀ r, row = some r → W1.heap.size ≤ r ∧ ∃ o : Obj, A.heap[r]? = some o ∧ o.isWalk = true) → (∀ r, row = some r → w.heap.size ≤ r ∧ ∃ o : Obj, A.heap[r]? = some o ∧ o.isCells = false) :=
      fun hr r e => by obtain ⟨hB, o, ho, hw⟩ := hr r e; exact ⟨by rw [← hW1] at hB; simp at hB; omega, o, ho, Obj.not_cells_of_walk hw⟩
    refine (hseq (w.heap.size + 1)
      (fun pre W => I pre W ∧ W.heap[w.heap.size + 1]? = some (.loop (rec .ready none)) ∧ W.heap[w.heap.size]? = some (.deferred (some [])))
      W1 hb1
      (fun s A B row hs hg' hr => ⟨hI s A B row hs.1 hg' (hnw (B := B) hr), (grownBy_keeps hg' (fun r e => (hr r e).2) hs.2.1 rfl).trans hs.2.1, (grownBy_keeps hg' (fun r e => (hr r e).2) hs.2.2 rfl).trans hs.2.2⟩)
      ?_ ⟨hI1, hL1, hK1⟩).mono ?_
    · rintro pre x W ⟨hi, hl, hk⟩ hcx
      have hlt : w.heap.size + 1 < W.heap.size := (Array.getElem?_eq_some_iff.1 hl).1
      have hy := run_yield (P := P) (args := encs x) hl (by rw [hrec]; exact hps x)
      rw [hrec] at hy
      refine ⟨fn, _, assign, body, hy, roundIn_of_wpIn hfn (hassign _ x W _ ⟨_, run_beginRound hl (by rw [hrec]), ?_⟩)⟩
      have hl2 : (W.putObj (w.heap.size + 1) (.loop { rec .ready none with state := .busy })).heap[w.heap.size + 1]? = some (.loop { rec .ready none with state := .busy }) := World.putObj_heap_same hlt
      have hk2 : (W.putObj (w.heap.size + 1) (.loop { rec .ready none with state := .busy })).heap[w.heap.size]? = some (.deferred (some [])) := (World.putObj_heap_other (by omega)).trans hk
      have hw2 : Kp W (W.putObj (w.heap.size + 1) (.loop { rec .ready none with state := .busy })) := hKb _ _ _ _ (by omega) hl rfl rfl
      refine wpIn_mono (hbody _ pre x _ (hI.putObj _ hi (by omega) hl rfl) (hCx _ _ _ _ _ _ (by omega) hl rfl hcx)) ?_
      rintro e a3 W3 hp
      cases e with
      | normal =>
        obtain ⟨hk3, hkp3, hi3⟩ := hp
        have hl3 := hk3.same _ _ (by omega) hl2 rfl
        have hr := run_endRound (P := P) none hl3
        have hl4 : (W3.putObj (w.heap.size + 1) (.loop (rec .ready none))).heap[w.heap.size + 1]? = some (.loop (rec .ready none)) := World.putObj_heap_same (Array.getElem?_eq_some_iff.1 hl3).1
        have hk4 : (W3.putObj (w.heap.size + 1) (.loop (rec .ready none))).heap[w.heap.size]? = some (.deferred (some [])) := (World.putObj_heap_other (by omega)).trans (hk3.same _ _ (Nat.le_refl _) hk2 rfl)
        rw [hrec] at hr hl4 hk4 ⊢
        refine ⟨_, _, hr, rfl, ⟨hI.putObj _ hi3 (by omega) hl3 rfl, hl4, hk4⟩, hKt (hKt hw2 hkp3) (hKb _ _ _ _ (by omega) hl3 rfl rfl)⟩
      | ret => exact hp.elim
      | exit id => exact hp.elim
      | goto t => exact hp.elim
      | panic ch => exact hp.elim
      | outgrown => exact hp.elim
    · rintro e W2 ⟨⟨v, rfl⟩, xs, hS, hi, hl, hk⟩
      exact ⟨none, _, by have := run_endLoop (P := P) hl (by rw [hrec]; simp); rw [hrec] at this; exact this, hdone _ xs _ (Nat.le_refl _) hS (hI.putObj _ hi (by omega) hl rfl) ((World.putObj_heap_other (by omega)).trans hk)⟩
end Go.Proofs.Yteigcddmbpfahaa.Cn

namespace Go.Proofs.Yteigcddmbpfahaa.Cn
open Go.RowKit
set_option linter.unusedVariables false
theorem uponIn_of_upon {P : Program} {o : Oper} {a : Act} {K : Act → World → Prop} {Q : Exit → Act → World → Prop} (l n : Nat) {r : Result Next}
    (h : o.upon P a K Q r) : o.uponIn (Fence.wide.inRound l) n P a K Q r := by
  cases r with
  | ok x w' =>
    cases x with
    | value v => exact h
    | skip => exact h
    | defer d => exact h
    | enter f args => exact ⟨fun hx => by simp [Fence.wide, Fence.inRound] at hx, CallsIn.inRound l (callsIn_wide.2 h)⟩
    | row r args => exact ⟨fun hx => by simp [Fence.wide, Fence.inRound] at hx, fun c cs _ => let ⟨v, w2, p, q⟩ := h c cs; ⟨v, w2, p, stepsIn_wide.2 q⟩⟩
    | _ => exact h.elim
  | halt x w' => cases x <;> exact h

def noDefer (ops : Array Oper) : Bool := ops.toList.all (fun o => match o.op with | .defer _ => false | _ => true)
theorem noDefer_spec {ops : Array Oper} (h : noDefer ops = true) {i : Nat} {o : Oper} (ho : ops[i]? = some o) : ∀ c, o.op ≠ .defer c := by
  intro c hc
  have hm : o ∈ ops.toList := by
    obtain ⟨hlt, e⟩ := Array.getElem?_eq_some_iff.1 ho
    rw [← e]; simp
  have := List.all_eq_true.1 h o hm
  rw [hc] at this
  cases this

theorem wpOpIn_of_wpOp {P : Program} {ops : Array Oper} {Q : Exit → Act → World → Prop} (l n : Nat) (hnd : noDefer ops = true) (hQ : ∀ a w, ¬ Q .outgrown a w) {i : Nat} {K : Act → World → Prop} {a : Act} {w : World}
    (h : wpOp P ops Q i K a w) : wpOpIn (Fence.wide.inRound l) n P ops Q i K a w := by
  unfold wpOp at h
  unfold wpOpIn
  cases ho : ops[i]? with
  | none => rw [ho] at h; exact h
  | some o =>
    rw [ho] at h
    simp only at h ⊢
    split
    · rename_i hw
      rw [if_pos hw] at h
      rcases h with h | ⟨_, a1, w1, h⟩
      · refine ⟨fun _ _ => trivial, ?_⟩
        rw [Oper.semAt_eq _ _ _ (noDefer_spec hnd ho)]
        exact uponIn_of_upon l n h
      · exact absurd h (hQ _ _)
    · rename_i hw
      rw [if_neg hw] at h
      exact ⟨fun _ _ => trivial, h⟩
theorem wpAnyIn_of_wpAny {P : Program} {md : Region.Mode} {ops : Array Oper} {Q : Exit → Act → World → Prop} (l n : Nat) (hnd : noDefer ops = true) (hQ : ∀ a w, ¬ Q .outgrown a w) :
    ∀ (fuel : Nat) (listed : Array Bool) (a : Act) (w : World), wpAny P md ops Q fuel listed a w → wpAnyIn (Fence.wide.inRound l) n P md ops Q fuel listed a w
  | 0, _, _, _, h => h
  | fuel + 1, _, _, _, h => ⟨h.1, fun i hi => wpOpIn_of_wpOp l n hnd hQ (wpOp_mono (fun a' w' h' => wpAnyIn_of_wpAny l n hnd hQ fuel _ a' w' h') (h.2 i hi))⟩

theorem wpIn_round_held {P : Program} {ops : Array Oper} {Q : Exit → Act → World → Prop} {S : World → Prop} {l n id : Nat} {a : Act} {w : World} (hm : P.follows .mixedOrders = true) (hnd : noDefer ops = true)
    (hQ : ∀ a w, ¬ Q .outgrown a w) (hS : S w.drew) (h : S w.drew → wpAnyH P .any ops Q S ops.size (Array.replicate ops.size false) a w.drew) :
    (Code.region id ops true).wpIn (Fence.wide.inRound l) n P Q a w :=
  wpIn_region_any hm (wpAnyIn_of_wpAny l n hnd hQ _ _ _ _ (wpAny_of_held _ _ _ _ (h hS)))
end Go.Proofs.Yteigcddmbpfahaa.Cn

namespace Go.Proofs.Yteigcddmbpfahaa.Cn
set_option linter.unusedVariables false
open Go.RowKit Go.Proofs.YteigcddmbpfahaaW.PrintWords Go.Proofs.YteigcddmbpfahaaW.PrintLast Go.Proofs.YteigcddmbpfahaaW.PrintMore
def wV (D k : Int) : List Bool → Int → Int
  | [], n => n
  | x :: l, n => wV D k l (if x then wrap64 (n * k) else wrap64 (n * wrap64 (D - k)))

set_option maxHeartbeats 1000000 in
theorem weight_calls (sa : Option Addr) (sc base : Nat) (l : List Bool) (D k : Int) (w : World) (hs : SlotsAt w base sa l) (hl : l.length ≤ 4000) :
    Calls Try.prog 48 #[.slice sa l.length sc, .int .i64 D, .int .i64 k] w fun e w' => e = .returned (.int .i64 (wV D k l 1)) ∧ w = w' := by
  have HS := Lib.hid hs
  clear hs
  have H0 := Lib.hid (show wV D k (l.drop 0) 1 = wV D k l 1 from rfl)
  generalize wV D k l 1 = R at *
  go_enter Try.func48, Try.ntmps48
  go_wp2_with fail
  go_loop [7, 12] (fun v7 i => ∃ (j : Nat) (n : Int), v7 = .int .i64 n ∧ i = .int .i64 j ∧ j ≤ l.length ∧ Hid (wV D k (l.drop j) n = R)) (fun _ i => l.length - (intOf i).toNat)
  case atStart => exact ⟨0, 1, rfl, rfl, by omega, H0⟩
  case round =>
    obtain ⟨j, n, rfl, rfl, hj, HR⟩ := hrel
    by_cases hlt : j < l.length
    · obtain ⟨ad, rfl, hbl, hc⟩ := HS.out j hlt
      have hbd : (0 : Int) ≤ (j : Int) ∧ (j : Int) < (l.length : Int) := ⟨by omega, by omega⟩
      have hR := HR.out
      rw [List.drop_eq_getElem_cons hlt, wV] at hR
      generalize l[j] = x at *
      cases x
      · rw [if_neg (by simp)] at hR
        have HR2 := Lib.hid hR
        clear HR hR
        go_wp2
        go_round
        case rel => exact ⟨j + 1, _, rfl, by go_num, by omega, HR2⟩
        case measure => simp [intOf]; omega
      · rw [if_pos rfl] at hR
        have HR2 := Lib.hid hR
        clear HR hR
        go_wp2
        go_round
        case rel => exact ⟨j + 1, _, rfl, by go_num, by omega, HR2⟩
        case measure => simp [intOf]; omega
    · have hR := HR.out
      rw [List.drop_of_length_le (by omega), wV] at hR
      have HR2 := Lib.hid hR
      clear HR hR
      go_wp2
      go_ret
      exact ⟨by rw [← HR2.out]; rfl, rfl⟩

def wholeL (D : Int) : Nat → Int → Int × Int
  | 0, n => (n, 0)
  | i + 1, n => if 1152921504606846976 / D < n then (0, 3) else wholeL D i (n * D)
def wholeV (slots D : Int) : Int × Int := if ¬ (2 ≤ D ∧ D ≤ 1000) ∨ slots < 0 then (0, 2) else if 12 < slots then (0, 3) else wholeL D slots.toNat 1

set_option maxHeartbeats 1000000 in
theorem whole_calls (slots D : Int) (w : World) :
    Calls Try.prog 46 #[.int .i64 slots, .int .i64 D] w fun e w' => e = .returned (.tuple #[.int .i64 (wholeV slots D).1, .int .i64 (wholeV slots D).2]) ∧ w = w' := by
  have HW := Lib.hid (within_calls D 2 1000 w)
  by_cases h1 : 2 ≤ D ∧ D ≤ 1000
  · rw [show withinB D 2 1000 = true by simp [withinB, h1]] at HW
    by_cases h2 : slots < 0
    · rw [show wholeV slots D = (0, 2) by simp [wholeV, h1, h2]]
      have hb : decide (slots < 0) = true := decide_eq_true h2
      go_enter Try.func46, Try.ntmps46
      go_wp2_with fail
      refine HW.out.mono ?_
      rintro e w' ⟨rfl, rfl⟩
      go_wp2
      go_ret2
      exact ⟨rfl, rfl⟩
    · by_cases h3 : 12 < slots
      · rw [show wholeV slots D = (0, 3) by simp [wholeV, h1, h2, h3]]
        have hb : decide (slots < 0) = false := decide_eq_false (by omega)
        go_enter Try.func46, Try.ntmps46
        go_wp2_with fail
        refine HW.out.mono ?_
        rintro e w' ⟨rfl, rfl⟩
        go_wp2
        go_ret2
        exact ⟨rfl, rfl⟩
      · have hv : wholeV slots D = wholeL D slots.toNat 1 := by simp [wholeV, h1, h2, h3]
        obtain ⟨s, rfl⟩ := Int.eq_ofNat_of_zero_le (show 0 ≤ slots by omega)
        rw [Int.toNat_natCast] at hv
        have H0 := Lib.hid (show wholeL D (s - 0) 1 = wholeV s D from hv.symm)
        generalize wholeV s D = R at *
        have hb : decide ((s : Int) < 0) = false := decide_eq_false (by omega)
        obtain ⟨g1, g2⟩ := h1
        clear h2 hv
        go_enter Try.func46, Try.ntmps46
        go_wp2_with fail
        refine HW.out.mono ?_
        rintro e w' ⟨rfl, rfl⟩
        go_wp2_with fail
        go_loop [6, 17] (fun v6 i => ∃ (j : Nat) (n : Int), v6 = .int .i64 n ∧ i = .int .i64 j ∧ j ≤ s ∧ 1 ≤ n ∧ n ≤ 1152921504606846976 ∧ Hid (wholeL D (s - j) n = R)) (fun _ i => s - (intOf i).toNat)
        case atStart => exact ⟨0, 1, rfl, rfl, by omega, by omega, by omega, H0⟩
        case round =>
          obtain ⟨j, n, rfl, rfl, hj, n1, n2, HR⟩ := hrel
          by_cases hlt : j < s
          · have hR := HR.out
            rw [show s - j = (s - (j + 1)) + 1 by omega, wholeL] at hR
            rcases Classical.em (1152921504606846976 / D < n) with hq | hq
            · rw [if_pos hq] at hR
              have hqb : decide (1152921504606846976 / D < n) = true := decide_eq_true hq
              have HR2 := Lib.hid hR
              clear HR hR hq
              go_wp2
              go_ret2
              exact ⟨by rw [← HR2.out]; rfl, rfl⟩
            · rw [if_neg hq] at hR
              have HR2 := Lib.hid hR
              have hqb : decide (1152921504606846976 / D < n) = false := decide_eq_false hq
              have m1 : 1 ≤ n * D := by have := Int.mul_le_mul n1 (show 1 ≤ D by omega) (by omega) (by omega); simpa using this
              have m2 : n * D ≤ 1152921504606846976 := by
                have := Int.mul_le_of_le_ediv (show 0 < D by omega) (show n ≤ 1152921504606846976 / D by omega)
                exact this
              clear HR hR hq
              go_wp2
              go_round
              case rel => exact ⟨j + 1, _, rfl, by go_num, by omega, m1, m2, HR2⟩
              case measure => simp [intOf]; omega
          · have hR := HR.out
            rw [show s - j = 0 by omega, wholeL] at hR
            have HR2 := Lib.hid hR
            clear HR hR
            go_wp2
            go_ret2
            exact ⟨by rw [← HR2.out]; rfl, rfl⟩
  · rw [show withinB D 2 1000 = false by simp [withinB]; omega] at HW
    rw [show wholeV slots D = (0, 2) by simp [wholeV, h1]]
    go_enter Try.func46, Try.ntmps46
    go_wp2_with fail
    refine HW.out.mono ?_
    rintro e w' ⟨rfl, rfl⟩
    go_wp2
    go_ret2
    exact ⟨rfl, rfl⟩

theorem outcomes_calls (n : Int) (w : World) :
    Calls Try.prog 47 #[.int .i64 n] w fun e w' => e = .returned (.func (.func 67) #[] #[.pointer (some ⟨w.heap.size, 0, none⟩)]) ∧ w' = w.alloc (.cells #[.int .i64 n] 3 (0, 0)) := by
  go_enter Try.func47, Try.ntmps47
  go_wp2
  go_ret
  exact ⟨rfl, rfl⟩
end Go.Proofs.Yteigcddmbpfahaa.Cn

namespace Go.Proofs.Yteigcddmbpfahaa.Cn
set_option linter.unusedVariables false
open Go.RowKit Go.Proofs.YteigcddmbpfahaaW.PrintWords Go.Proofs.YteigcddmbpfahaaW.PrintLast Go.Proofs.YteigcddmbpfahaaW.PrintMore
attribute [local go_sem] Oper.semAt_some
def outL (n b : Nat) : List Bool := (List.range n).map (fun i => b.testBit i)
theorem outL_len (n b : Nat) : (outL n b).length = n := by simp [outL]
def outC (n b j : Nat) : Array Value := ((List.range n).map (fun i => Value.bool (decide (i < j) && b.testBit i))).toArray
theorem outC_get (n b j i : Nat) (h : i < n) : (outC n b j)[i]? = some (.bool (decide (i < j) && b.testBit i)) := by
  simp [outC, List.getElem?_range h]
theorem outC_set (n b j : Nat) (h : j < n) : (outC n b j).setIfInBounds j (.bool (b.testBit j)) = outC n b (j + 1) := by
  apply Array.ext_getElem?
  intro i
  by_cases hi : i < n
  · rw [outC_get _ _ _ _ hi]
    by_cases e : j = i
    · subst e
      rw [get_set_same (outC_get _ _ _ _ h)]
      simp
    · rw [get_set_other e, outC_get _ _ _ _ hi]
      have : decide (i < j) = decide (i < j + 1) := by apply decide_eq_decide.2; omega
      rw [this]
  · have h1 : (outC n b (j + 1)).size ≤ i := by simp [outC]; omega
    have h2 : ((outC n b j).setIfInBounds j (.bool (b.testBit j))).size ≤ i := by simp [outC]; omega
    rw [Array.getElem?_eq_none h1, Array.getElem?_eq_none h2]
theorem outC_zero (n b : Nat) : outC n b 0 = Array.replicate n (.bool false) := by
  apply Array.ext_getElem?
  intro i
  by_cases hi : i < n
  · rw [outC_get _ _ _ _ hi]; simp [hi]
  · rw [Array.getElem?_eq_none (by simp [outC]; omega), Array.getElem?_eq_none (by simp; omega)]

theorem i64_and1 (n : Int) : bits .and .i64 n 1 = n % 2 := by
  have h1 : (BitVec.ofInt 64 1).toNat = 2 ^ 1 - 1 := by decide
  have key : (BitVec.ofInt 64 n &&& BitVec.ofInt 64 1).toNat = (n % ((2 ^ 64 : Nat) : Int)).toNat % 2 ^ 1 := by
    rw [BitVec.toNat_and, BitVec.toNat_ofInt, h1, Nat.and_two_pow_sub_one_eq_mod]
  show IntKind.i64.wrap ((BitVec.ofInt 64 n &&& BitVec.ofInt 64 1).toNat : Nat) = n % 2
  rw [key, IntKind.wrap_i64]
  omega
theorem bit_eq (k j : Nat) : (bits BinOp.and IntKind.i64 ((k : Int) / 2 ^ j) 1 == 1) = k.testBit j := by
  rw [i64_and1, Nat.testBit_eq_decide_div_mod_eq]
  have e : (k : Int) / 2 ^ j % 2 = ((k / 2 ^ j % 2 : Nat) : Int) := by simp
  rw [e, Bool.eq_iff_iff]
  simp only [beq_iff_eq, decide_eq_true_eq]
  omega
theorem info_bool : (Try.prog.info? 4).map (fun i => (i.zero, i.size, i.bytes)) = some (some (.bool false), 1, 1) := by kernel_rfl
theorem make_bools (n : Nat) (hn : n ≤ 4000) (w : World) :
    (Instr.makeSlice 34 (.int .i64 n) (.int .i64 n)).run Try.prog w = .ok (.slice (some ⟨w.heap.size, 0, none⟩) n n) (w.alloc (.cells (Array.replicate n (.bool false)) 4 (0, 0))) := by
  obtain ⟨i0, hi, hz0, hz1, hz2⟩ := info_parts info_bool
  have h := run_make (P := Try.prog) w 34 4 i0 (.bool false) Try.underlying34 hi hz0 .i64 .i64 n n (by omega) (by omega) (by rw [hz2]; omega) (by omega)
  rw [h, hz1]
  simp only [Int.toNat_natCast, Nat.mul_one]
  have : madeCells (Value.bool false).cells n = Array.replicate n (.bool false) := by
    apply Array.ext_getElem?
    intro i
    by_cases hi : i < n
    · simp [madeCells, hi, Value.cells, Nat.mod_one]
    · rw [Array.getElem?_eq_none (by simp [madeCells]; omega), Array.getElem?_eq_none (by simp; omega)]
  rw [this]

def KBx (bx : Nat) (W W' : World) : Prop := W'.heap[bx]? = W.heap[bx]? ∧ W.heap.size ≤ W'.heap.size
theorem KBx.refl (bx : Nat) (W : World) : KBx bx W W := ⟨rfl, Nat.le_refl _⟩
theorem KBx.trans {bx : Nat} {A B C : World} (h : KBx bx A B) (k : KBx bx B C) : KBx bx A C := ⟨k.1.trans h.1, Nat.le_trans h.2 k.2⟩
theorem KBx.cell {bx : Nat} {A B : World} (h : KBx bx A B) (o : Nat) : B.cell? ⟨bx, o, none⟩ = A.cell? ⟨bx, o, none⟩ := by simp only [World.cell?, h.1]
theorem KBx.grown {bx : Nat} {A B : World} (h : A.grownBy B none) (hb : bx < A.heap.size) : KBx bx A B := ⟨h.block bx hb (by simp), h.size⟩
theorem KBx.below {bx n : Nat} {A B : World} (h : Below n A B) (hb : bx < n) : KBx bx A B := ⟨h.block bx hb, h.size⟩
theorem KBx.putObj {bx l : Nat} {W : World} (o : Obj) (h : bx ≠ l) : KBx bx W (W.putObj l o) := ⟨World.putObj_heap_other h, by simp [World.putObj]⟩

theorem iter_calls (n : Nat) (bx : Nat) (s : Nat) (hs : s ≤ 12) (w : World) (hbx : w.cell? ⟨bx, 0, none⟩ = some (.int .i64 s)) :
    SeqC n Try.prog 67 #[.pointer (some ⟨bx, 0, none⟩)] (fun v : Value => #[v])
      (fun pre v W => pre.length < 2 ^ s ∧ ∃ A c, v = .slice A s c ∧ SlotsAt W W.heap.size A (outL s pre.length)) (fun W W' => KBx bx W W') (fun xs => xs.length = 2 ^ s) w := by
  intro l J W hW hJ hY h0
  have hmk := make_bools s (by omega)
  have c0 := (hW.cell (p := ⟨bx, 0, none⟩) (World.block_lt_of_cell? w _ hbx)).trans hbx
  have HY := Lib.hid hY
  clear hY
  refine callsIn_of_wp Try.func67 rfl trivial ?_ rfl
  simp only [Try.ntmps67, List.size_toArray, List.length_cons, List.length_nil, Nat.reduceAdd, Nat.reduceSub, Array.replicate_succ, Array.replicate_zero, List.push_toArray, List.append_toArray, List.nil_append, List.cons_append]
  obtain ⟨N, hN⟩ : ∃ N : Nat, 2 ^ s = N := ⟨_, rfl⟩
  have hN2 : N ≤ 4096 := by rw [← hN]; exact Nat.pow_le_pow_right (by omega) hs
  have hp : wrap64 (2 ^ s) = (N : Int) := by
    rw [← hN, show ((2 : Int) ^ s) = ((2 ^ s : Nat) : Int) by simp, hN]; unfold wrap64; omega
  rw [hN] at HY ⊢
  have HN := Lib.hid hN
  have HJ := Lib.hid hJ
  clear hN hJ hW hbx
  gi_wp2
  clear hp
  have lb := World.block_lt_of_cell? W _ c0
  gi_loopw [8] (fun i wr => ∃ (k : Nat) (xs : List Value), i = .int .i64 k ∧ k ≤ N ∧ xs.length = k ∧ Hid (J xs wr) ∧ Hid (KBx bx W wr)) (fun i _ => N - (intOf i).toNat)
  case atStart => exact ⟨0, [], rfl, by omega, rfl, Lib.hid h0, Lib.hid (KBx.refl _ _)⟩
  case round =>
    obtain ⟨k, xs, rfl, hk, hxs, HJr, HBr⟩ := hrel
    generalize wr = w0 at *
    have c1 := (HBr.out.cell 0).trans c0
    by_cases hlt : k < N
    · gi_wp2
      have hb0 : Blk (w0.alloc (.cells (Array.replicate s (.bool false)) 4 (0, 0))) w0.heap.size (outC s k 0) 4 := by rw [outC_zero]; exact Blk.new _ _ _
      have hg0 : w0.grownBy (w0.alloc (.cells (Array.replicate s (.bool false)) 4 (0, 0))) none := World.grownBy_alloc _ _ _
      have Hb0 := Lib.hid hb0
      have Hg0 := Lib.hid hg0
      clear hb0 hg0
      gi_loopw [15] (fun v15 w2 => ∃ j : Nat, v15 = .int .i64 j ∧ j ≤ s ∧ Hid (Blk w2 w0.heap.size (outC s k j) 4) ∧ Hid (w0.grownBy w2 none)) (fun v15 _ => s - (intOf v15).toNat)
      case atStart => exact ⟨0, rfl, by omega, Hb0, Hg0⟩
      case round =>
        obtain ⟨j, rfl, hj, HB2, HG2⟩ := hrel
        by_cases hjs : j < s
        · have p1 := (HB2.out.cell j).trans (outC_get s k j j hjs)
          have f1 := HB2.out.free j
          have bd : (0 : Int) ≤ (j : Int) ∧ (j : Int) < (s : Int) := ⟨by omega, by omega⟩
          gi_wp2
          refine ⟨⟨j + 1, by go_num, by omega, ?_, ?_⟩, by simp [intOf]; omega⟩
          · rw [bit_eq, ← outC_set s k j hjs]; exact HB2.out.setCell j _
          · exact ⟨HG2.out.os, HG2.out.tape, HG2.out.output, by simpa using HG2.out.size, fun q hq hr => (Below.heap_setCell _ _ _ _ (by simp; omega)).trans (HG2.out.block q hq hr)⟩
        · obtain rfl : j = s := by omega
          have hJ' : J xs wr := HJ.out xs w0 wr none HJr.out HG2.out (fun r e => by cases e)
          have hsl : SlotsAt wr wr.heap.size (some ⟨w0.heap.size, 0, none⟩) (outL j xs.length) := by
            intro i hi
            rw [outL_len] at hi
            refine ⟨_, rfl, HB2.out.lt, ?_⟩
            rw [addr0_add, HB2.out.cell i, outC_get _ _ _ _ hi]
            simp [outL, hxs, hi]
          obtain ⟨fn, tmps, assign, body, hy, hR⟩ := HY.out xs (.slice (some ⟨w0.heap.size, 0, none⟩) j j) wr hJ' ⟨by omega, _, _, rfl, hsl⟩
          have hBw : KBx bx W wr := HBr.out.trans (KBx.grown HG2.out (World.block_lt_of_cell? w0 _ c1))
          clear hJ' hsl
          gi_wp2
          refine ⟨fun h => by simp [Fence.wide] at h, hR.mono ?_⟩
          rintro e W3 ⟨rfl, hJ3, hK3⟩
          have HJ3 := Lib.hid hJ3
          have HK3 := Lib.hid (hBw.trans hK3)
          clear hJ3 hK3 hBw hR hy
          gi_wp2
          exact ⟨⟨k + 1, xs ++ [Value.slice (some ⟨w0.heap.size, 0, none⟩) j j], by go_num, by omega, by simp [hxs], HJ3, HK3⟩, by simp [intOf]; omega⟩
    · gi_wp2
      go_end0
      exact ⟨⟨_, rfl⟩, xs, by omega, HJr.out⟩
end Go.Proofs.Yteigcddmbpfahaa.Cn

namespace Go.Proofs.Yteigcddmbpfahaa.Cn
set_option linter.unusedVariables false
open Go.RowKit Go.Proofs.YteigcddmbpfahaaW.PrintWords Go.Proofs.YteigcddmbpfahaaW.PrintLast Go.Proofs.YteigcddmbpfahaaW.PrintMore
attribute [local go_sem] Oper.semAt_some

def hitsN : List Bool → Int
  | [] => 0
  | x :: l => b2i x + hitsN l
def tailS (s : Nat) (D k h : Int) : Nat → Int
  | 0 => 0
  | b + 1 => if h ≤ hitsN (outL s b) then wrap64 (tailS s D k h b + wV D k (outL s b) 1) else tailS s D k h b
def tailOk (slots D k h : Int) : Bool := withinB k 0 D && withinB h 0 (slots + 1)
def count_Tail.f (a0 a1 a2 a3 : Int) : Option (Int × Int) :=
  if (wholeV a0 a1).2 = 0 then (if tailOk a0 a1 a2 a3 = true then some (tailS a0.toNat a1 a2 a3 (2 ^ a0.toNat), 0) else some (0, 2)) else some (0, (wholeV a0 a1).2)

theorem SlotsAt.putObj {W : World} {A : Option Addr} {s : List Bool} {l : Nat} {o o' : Obj} (ho : W.heap[l]? = some o) (hc : o.isCells = false) (h : SlotsAt W W.heap.size A s) : SlotsAt (W.putObj l o') (W.putObj l o').heap.size A s := by
  intro i hi
  obtain ⟨ad, e, hb, hcl⟩ := h i hi
  refine ⟨ad, e, by simpa [World.putObj] using hb, ?_⟩
  obtain ⟨o1, ho1, hc1⟩ := cells_of_cell hcl
  have hne : (ad.add i).block ≠ l := fun e => by rw [e, ho] at ho1; cases ho1; rw [hc] at hc1; cases hc1
  unfold World.cell? at hcl ⊢
  rw [World.putObj_heap_other hne]
  exact hcl

theorem wholeV_ok {slots D : Int} (h : (wholeV slots D).2 = 0) : 2 ≤ D ∧ D ≤ 1000 ∧ 0 ≤ slots ∧ slots ≤ 12 := by
  unfold wholeV at h
  split at h
  · exact absurd h (by decide)
  · split at h
    · exact absurd h (by decide)
    · omega

set_option maxRecDepth 100000 in
set_option maxHeartbeats 4000000 in
theorem count_Tail.calls (a0 : Int) (a1 : Int) (a2 : Int) (a3 : Int) (r1 r2 : Int) (w : World) (h : count_Tail.f a0 a1 a2 a3 = some (r1, r2)) :
    Calls Try.prog 19 #[.int .i64 a0, .int .i64 a1, .int .i64 a2, .int .i64 a3] w fun e w' => e = .returned (.tuple #[.int .i64 r1, .int .i64 r2]) ∧ Below w.heap.size w w' := by
  obtain ⟨wa, hwa⟩ : ∃ wa, wa = ((w.alloc (.cells #[.int .i64 a1] 3 (0, 0))).alloc (.cells #[.int .i64 a2] 3 (0, 0))).alloc (.cells #[.int .i64 a3] 3 (0, 0)) := ⟨_, rfl⟩
  have hb1 : Blk wa w.heap.size #[.int .i64 a1] 3 := by rw [hwa]; exact ((Blk.new w _ _).alloc _).alloc _
  have hb2 : Blk wa (w.heap.size + 1) #[.int .i64 a2] 3 := by
    rw [hwa]; have := (Blk.new (w.alloc (.cells #[.int .i64 a1] 3 (0, 0))) #[.int .i64 a2] 3).alloc (.cells #[.int .i64 a3] 3 (0, 0)); rwa [World.size_alloc] at this
  have hb3 : Blk wa (w.heap.size + 1 + 1) #[.int .i64 a3] 3 := by
    rw [hwa]; have := Blk.new ((w.alloc (.cells #[.int .i64 a1] 3 (0, 0))).alloc (.cells #[.int .i64 a2] 3 (0, 0))) #[.int .i64 a3] 3; rwa [World.size_alloc, World.size_alloc] at this
  have hw1 : Below w.heap.size w wa := by rw [hwa]; exact (((Below.refl w.heap.size w).alloc (Nat.le_refl _) _).alloc (by simp) _).alloc (by simp; omega) _
  have hz1 : wa.heap.size = w.heap.size + 3 := by rw [hwa]; simp
  have HL := Lib.hid (whole_calls a0 a1 wa)
  have HW1 := Lib.hid hw1
  have HZ1 := Lib.hid hz1
  have HV := Lib.hid h
  have HWA := Lib.hid hwa
  have HB1 := Lib.hid hb1
  have HB2 := Lib.hid hb2
  have HB3 := Lib.hid hb3
  have c1 := hb1.cell 0
  have c2 := hb2.cell 0
  have c3 := hb3.cell 0
  simp at c1 c2 c3
  clear hw1 hz1 hb1 hb2 hb3 h hwa
  rcases Classical.em ((wholeV a0 a1).2 = 0) with he | he
  · obtain ⟨d2, d3, d4, d5⟩ := wholeV_ok he
    obtain ⟨s, rfl⟩ := Int.eq_ofNat_of_zero_le d4
    have hv := HV.out
    rw [count_Tail.f, if_pos he] at hv
    rw [he] at HL
    generalize (wholeV (s : Int) a1).1 = all at *
    have HK := Lib.hid (within_calls a2 0 a1 wa)
    have HH := Lib.hid (within_calls a3 0 ((s : Int) + 1) wa)
    have hs1 : ((s : Int) + 1) ≤ 13 := by omega
    by_cases hok : tailOk s a1 a2 a3 = true
    · rw [if_pos hok] at hv
      rw [tailOk, Bool.and_eq_true] at hok
      rw [hok.1] at HK
      rw [hok.2] at HH
      simp only [Int.toNat_natCast, Option.some.injEq, Prod.mk.injEq] at hv
      have HV2 := Lib.hid hv
      clear he HV hv hok
      refine (callsIn_wide (n := 9)).1 (callsIn_of_wp_marks (F := Fence.wide) (n := 9) Try.func19 rfl trivial ?_ rfl)
      refine wpIn_wide.2 ?_
      simp only [Try.ntmps19, List.size_toArray, List.length_cons, List.length_nil, Nat.reduceAdd, Nat.reduceSub, Array.replicate_succ, Array.replicate_zero, List.push_toArray, List.append_toArray, List.nil_append, List.cons_append]
      go_wp2_with fail
      rw [← HWA.out]
      refine HL.out.mono ?_
      rintro e w2 ⟨rfl, rfl⟩
      go_wp2_with fail
      refine HK.out.mono ?_
      rintro e w2 ⟨rfl, rfl⟩
      go_wp2_with fail
      refine HH.out.mono ?_
      rintro e w2 ⟨rfl, rfl⟩
      go_wp2_with fail
      obtain ⟨wb, hwb⟩ : ∃ wb, wb = wa.alloc (.cells #[.int .i64 0] 3 (0, 0)) := ⟨_, rfl⟩
      have HWB := Lib.hid hwb
      clear hwb
      rw [← HWB.out]
      refine (outcomes_calls s wb).mono ?_
      rintro e w2 ⟨rfl, hw2⟩
      have HW2 := Lib.hid hw2
      clear hw2
      go_wp2_with fail
      have HWb : Below (wa.heap.size + 1) wb w2 := by rw [HW2.out]; exact (Below.refl _ wb).alloc (by rw [HWB.out]; simp) _
      have hzb : wb.heap.size = wa.heap.size + 1 := by rw [HWB.out]; simp
      have hz2 : w2.heap.size = wa.heap.size + 2 := by rw [HW2.out]; simp [hzb]
      have hs0 : Blk w2 wa.heap.size #[.int .i64 0] 3 := by rw [HW2.out, HWB.out]; exact (Blk.new wa _ _).alloc _
      have hbx : w2.cell? ⟨wb.heap.size, 0, none⟩ = some (.int .i64 s) := by rw [HW2.out, (Blk.new wb #[.int .i64 s] 3).cell 0]; rfl
      have hw2 : Below wa.heap.size wa w2 := by rw [HW2.out, HWB.out]; exact ((Below.refl _ wa).alloc (Nat.le_refl _) _).alloc (by simp) _
      refine' wp_range (n := 9) (gf := 67) (lb := #[.pointer (some ⟨wb.heap.size, 0, none⟩)]) rfl (fun _ _ => by simp [go_sem]) (iter_calls _ wb.heap.size s (by omega) w2 hbx)
        (fun h k => h.trans k) (fun W l o o' hl _ _ _ => KBx.putObj o' (by omega)) ?cx (Below.refl _ w2) (fun _ => rfl)
        (fun pre W => Blk W wa.heap.size #[.int .i64 (tailS s a1 a2 a3 pre.length)] 3 ∧ Below wa.heap.size wa W ∧ w2.heap.size ≤ W.heap.size) ?own ⟨hs0, hw2, Nat.le_refl _⟩ _ ?assign ?body ?done
      case assign =>
        intro l x W K hK
        gi_wp2
        exact hK
      case cx =>
        rintro pre x W l o o' hl ho hc ⟨h1, A, c, rfl, hS⟩
        exact ⟨h1, A, c, rfl, hS.putObj ho hc⟩
      case own =>
        intro pre A B row hs hg hr
        obtain ⟨k1, k2, k3⟩ := hs
        refine ⟨?_, ?_, Nat.le_trans k3 hg.size⟩
        · exact (hg.block _ k1.lt (fun e => by obtain ⟨h1, _⟩ := hr _ e.symm; omega)).trans k1
        · exact ⟨hg.os.trans k2.os, hg.tape.trans k2.tape, hg.output.trans k2.output, Nat.le_trans k2.size hg.size, fun k hk => (hg.block k (Nat.lt_of_lt_of_le hk k2.size) (fun e => by obtain ⟨h1, _⟩ := hr _ e.symm; omega)).trans (k2.block k hk)⟩
      case body =>
        intro l pre x W hI hX
        obtain ⟨k1, k2, k3⟩ := hI
        obtain ⟨hlt, A, c, rfl, hS⟩ := hX
        generalize hj : pre.length = j at *
        have hol : (outL s j).length = s := outL_len s j
        have HSl := Lib.hid hS
        generalize hO : outL s j = out at *
        have c1 := (k2.cell (p := ⟨w.heap.size, 0, none⟩) (by have := HZ1.out; simp; omega)).trans c1
        gi_wp2
        have H0 := Lib.hid (show (0 : Int) + hitsN (out.drop 0) = hitsN out by simp)
        gi_loopw [14, 42] (fun v14 v42 wr => ∃ (t : Nat) (n : Int), v14 = .int .i64 n ∧ v42 = .int .i64 t ∧ t ≤ s ∧ 0 ≤ n ∧ n ≤ t ∧ Hid (n + hitsN (out.drop t) = hitsN out) ∧ wr = W) (fun _ v42 _ => s - (intOf v42).toNat)
        case atStart => exact ⟨0, 0, rfl, rfl, by omega, by omega, by omega, H0, rfl⟩
        case round =>
          obtain ⟨t, n, rfl, rfl, ht, hn0, hn1, HR, hwr⟩ := hrel
          subst hwr
          by_cases hts : t < s
          · obtain ⟨ad, rfl, hbl, hc⟩ := HSl.out t (by omega)
            have hbd : (0 : Int) ≤ (t : Int) ∧ (t : Int) < (s : Int) := ⟨by omega, by omega⟩
            have hR := HR.out
            rw [List.drop_eq_getElem_cons (by omega), hitsN] at hR
            generalize out[t]'(by omega) = x at *
            cases x
            · have hR2 := Lib.hid (show n + hitsN (out.drop (t + 1)) = hitsN out by simp [b2i] at hR; omega)
              clear HR hR
              gi_wp2
              exact ⟨⟨t + 1, n, rfl, by go_num, by omega, by omega, by omega, hR2, trivial⟩, by simp [intOf]; omega⟩
            · have hR2 := Lib.hid (show (n + 1) + hitsN (out.drop (t + 1)) = hitsN out by simp [b2i] at hR; omega)
              clear HR hR
              gi_wp2
              exact ⟨⟨t + 1, n + 1, by go_num, by go_num, by omega, by omega, by omega, hR2, trivial⟩, by simp [intOf]; omega⟩
          · obtain rfl : t = s := by omega
            have hR := HR.out
            rw [List.drop_of_length_le (by omega), hitsN] at hR
            have hT : tailS t a1 a2 a3 (j + 1) = if a3 ≤ n then wrap64 (tailS t a1 a2 a3 j + wV a1 a2 out 1) else tailS t a1 a2 a3 j := by
              rw [tailS, hO, show hitsN out = n by omega]
            have c3 := (k2.cell (p := ⟨w.heap.size + 1 + 1, 0, none⟩) (by have := HZ1.out; simp; omega)).trans c3
            have c2 := (k2.cell (p := ⟨w.heap.size + 1, 0, none⟩) (by have := HZ1.out; simp; omega)).trans c2
            have c4 := k1.cell 0
            have f4 := k1.free 0
            have hmix : Try.prog.follows .mixedOrders = true := by kernel_rfl
            have HT := Lib.hid hT
            clear hT HR hR
            rcases Classical.em (a3 ≤ n) with hq | hq
            · have HT2 := HT.out
              rw [if_pos hq] at HT2
              have hqb : decide (a3 ≤ n) = true := decide_eq_true hq
              have hwc : ∀ w' : World, SlotsAt w' wr.heap.size A out → CallsIn (Fence.wide.inRound l) 6 Try.prog 48 #[.slice A t c, .int .i64 a1, .int .i64 a2] w' fun e w'' => e = .returned (.int .i64 (wV a1 a2 out 1)) ∧ w' = w'' := by
                intro w' h'
                have := weight_calls A c _ out a1 a2 w' h' (by omega)
                rw [hol] at this
                exact CallsIn.inRound l (callsIn_wide.2 this)
              have HWC := Lib.hid hwc
              have hfn : Fence.wide.fn 48 := trivial
              clear hwc
              have ew : IntKind.i64.wrap (tailS t a1 a2 a3 j + wV a1 a2 out 1) = wrap64 (tailS t a1 a2 a3 j + wV a1 a2 out 1) := by first | rfl | (rw [IntKind.wrap_i64]; unfold wrap64; rfl)
              have K5 := Lib.hid (show Blk (wr.setCell ⟨wa.heap.size, 0, none⟩ (.int .i64 (IntKind.i64.wrap (tailS t a1 a2 a3 j + wV a1 a2 out 1)))).drew wa.heap.size #[.int .i64 (wrap64 (tailS t a1 a2 a3 j + wV a1 a2 out 1))] 3 from by rw [ew]; exact (k1.setCell 0 _).drew)
              clear ew
              gi_wp2
              gi_region_with_o (gi_at_call 48; refine (HWC.out wr.drew HSl.out).mono ?_; rintro e w' ⟨rfl, rfl⟩)
              all_goals gi_wp2
              all_goals refine ⟨((KeepsOthers.setCell _ _ _).trans (KeepsOthers.drew _)).from _, ⟨Below.heap_setCell _ _ _ _ (by simp; omega), by simp⟩, by simp only [List.length_append, List.length_singleton, hj, HT2]; exact K5.out, ?_, by simpa using k3⟩
              all_goals exact k2.trans ((Below.refl wa.heap.size wr).setCell (p := ⟨wa.heap.size, 0, none⟩) (Nat.le_refl _) _).drew
            · have HT2 := HT.out
              rw [if_neg hq] at HT2
              have hqb : decide (a3 ≤ n) = false := decide_eq_false hq
              gi_wp2
              exact ⟨KeepsFrom.refl _ _, KBx.refl _ _, by simp only [List.length_append, List.length_singleton, hj, HT2]; exact k1, k2, by omega⟩

      case done =>
        intro D xs W hD hS hI hK
        obtain ⟨k1, k2, k3⟩ := hI
        rw [hS] at k1
        have c4 := k1.cell 0
        have f4 := k1.free 0
        obtain ⟨rfl, rfl⟩ := HV2.out
        go_wp2
        refine ⟨by simp, .inl ⟨_, _, rfl, run_takeDeferred hK, ⟨_, results_tmp2 rfl _ _ _, rfl, ?_⟩⟩⟩
        have hm := HZ1.out
        exact (HW1.out.trans (k2.mono (show w.heap.size ≤ wa.heap.size by omega))).trans ⟨rfl, rfl, rfl, by simp, fun k hk => World.putObj_heap_other (by omega)⟩
    · rw [if_neg hok] at hv
      simp only [Option.some.injEq, Prod.mk.injEq] at hv
      have hg : withinB a2 0 a1 = false ∨ (withinB a2 0 a1 = true ∧ withinB a3 0 ((s : Int) + 1) = false) := by
        rw [tailOk, Bool.and_eq_true] at hok
        rcases h1 : withinB a2 0 a1 with _ | _
        · exact Or.inl rfl
        · rcases h2 : withinB a3 0 ((s : Int) + 1) with _ | _
          · exact Or.inr ⟨rfl, rfl⟩
          · exact absurd ⟨h1, h2⟩ hok
      have HV2 := Lib.hid hv
      clear he HV hv hok
      rcases hg with hg | ⟨hg, hg'⟩
      · rw [hg] at HK
        clear HH hg
        go_enter Try.func19, Try.ntmps19
        go_wp2_with fail
        rw [← HWA.out]
        refine HL.out.mono ?_
        rintro e w2 ⟨rfl, rfl⟩
        go_wp2_with fail
        refine HK.out.mono ?_
        rintro e w2 ⟨rfl, rfl⟩
        go_wp2_with fail
        go_ret2
        obtain ⟨rfl, rfl⟩ := HV2.out
        exact ⟨rfl, HW1.out⟩
      · rw [hg] at HK
        rw [hg'] at HH
        clear hg hg'
        go_enter Try.func19, Try.ntmps19
        go_wp2_with fail
        rw [← HWA.out]
        refine HL.out.mono ?_
        rintro e w2 ⟨rfl, rfl⟩
        go_wp2_with fail
        refine HK.out.mono ?_
        rintro e w2 ⟨rfl, rfl⟩
        go_wp2_with fail
        refine HH.out.mono ?_
        rintro e w2 ⟨rfl, rfl⟩
        go_wp2_with fail
        go_ret2
        obtain ⟨rfl, rfl⟩ := HV2.out
        exact ⟨rfl, HW1.out⟩
  · have hv := HV.out
    rw [count_Tail.f, if_neg he] at hv
    simp only [Option.some.injEq, Prod.mk.injEq] at hv
    have hne : ((wholeV a0 a1).2 != 0) = true := by simp [he]
    have hne2 : ((wholeV a0 a1).2 == 0) = false := by simp [he]
    have HV2 := Lib.hid hv
    clear he HV hv
    generalize (wholeV a0 a1).1 = all at *
    generalize (wholeV a0 a1).2 = er at *
    go_enter Try.func19, Try.ntmps19
    go_wp2_with fail
    rw [← HWA.out]
    refine HL.out.mono ?_
    rintro e w2 ⟨rfl, rfl⟩
    go_wp2_with fail
    go_ret2
    obtain ⟨rfl, rfl⟩ := HV2.out
    exact ⟨rfl, HW1.out⟩
end Go.Proofs.Yteigcddmbpfahaa.Cn

namespace Go.Proofs.Yteigcddmbpfahaa.Cn
set_option linter.unusedVariables false
open Go.RowKit Go.Proofs.YteigcddmbpfahaaW.PrintWords Go.Proofs.YteigcddmbpfahaaW.PrintLast Go.Proofs.YteigcddmbpfahaaW.PrintMore
attribute [local go_sem] Oper.semAt_some

def powV (s : Nat) (D A k : Int) (lo hi : Nat) (v : Int) : Nat → Int
  | 0 => 0
  | b + 1 => if 0 < wV D k (outL s b) 1 ∧ (decideS (runS D A (outL s b) start) D.toNat lo hi).1 = v then wrap64 (powV s D A k lo hi v b + wV D k (outL s b) 1) else powV s D A k lo hi v b
def powerOk (D A k lo hi : Int) : Bool := withinB A 2 900000 && withinB k 0 D && withinB hi 1 D && withinB lo 0 (hi - 1)
def count_Power.f (a0 a1 a2 a3 a4 a5 : Int) : Option (Int × Int × Int × Int × Int) :=
  if (wholeV a0 a1).2 = 0 then (if powerOk a1 a2 a3 a4 a5 = true then
    some (powV a0.toNat a1 a2 a3 a4.toNat a5.toNat 2 (2 ^ a0.toNat), powV a0.toNat a1 a2 a3 a4.toNat a5.toNat 3 (2 ^ a0.toNat), powV a0.toNat a1 a2 a3 a4.toNat a5.toNat 1 (2 ^ a0.toNat), (wholeV a0 a1).1, 0)
    else some (0, 0, 0, 0, 2)) else some (0, 0, 0, 0, (wholeV a0 a1).2)

theorem wrap_eq' (x : Int) : IntKind.i64.wrap x = wrap64 x := by rw [IntKind.wrap_i64]; unfold wrap64; rfl
theorem below_put {n l : Nat} (W : World) (o : Obj) (h : n ≤ l) : Below n W (W.putObj l o) := ⟨rfl, rfl, rfl, by simp, fun k hk => World.putObj_heap_other (by omega)⟩
theorem below_four {n b : Nat} {w W : World} (x0 x1 x2 x3 : Value) (h : Below n w W) (hn : n ≤ b) :
    Below n w ((((W.setCell ⟨b, 0, none⟩ x0).setCell ⟨b, 1, none⟩ x1).setCell ⟨b, 2, none⟩ x2).setCell ⟨b, 3, none⟩ x3) :=
  (((h.setCell (p := ⟨b, 0, none⟩) hn _).setCell (p := ⟨b, 1, none⟩) hn _).setCell (p := ⟨b, 2, none⟩) hn _).setCell (p := ⟨b, 3, none⟩) hn _
theorem blk_four {b : Nat} {W : World} {y0 y1 y2 y3 : Value} {t : TypeId} (x0 x1 x2 x3 : Value) (h : Blk W b #[y0, y1, y2, y3] t) :
    Blk ((((W.setCell ⟨b, 0, none⟩ x0).setCell ⟨b, 1, none⟩ x1).setCell ⟨b, 2, none⟩ x2).setCell ⟨b, 3, none⟩ x3) b #[x0, x1, x2, x3] t := by
  have := (((h.setCell 0 x0).setCell 1 x1).setCell 2 x2).setCell 3 x3
  simpa using this
theorem decideS_val (S : Nat → KS) (D lo hi : Nat) : (decideS S D lo hi).1 = 1 ∨ (decideS S D lo hi).1 = 2 ∨ (decideS S D lo hi).1 = 3 := by
  unfold decideS decideV
  split
  · exact Or.inr (Or.inl rfl)
  · split
    · exact Or.inr (Or.inr rfl)
    · exact Or.inl rfl

set_option linter.unusedSimpArgs false
set_option maxRecDepth 100000 in
set_option maxHeartbeats 4000000 in
theorem count_Power.calls (a0 : Int) (a1 : Int) (a2 : Int) (a3 : Int) (a4 : Int) (a5 : Int) (r1 r2 r3 r4 r5 : Int) (w : World) (h : count_Power.f a0 a1 a2 a3 a4 a5 = some (r1, r2, r3, r4, r5)) :
    Calls Try.prog 88 #[.int .i64 a0, .int .i64 a1, .int .i64 a2, .int .i64 a3, .int .i64 a4, .int .i64 a5] w fun e w' => e = .returned (.tuple #[.agg #[.int .i64 r1, .int .i64 r2, .int .i64 r3, .int .i64 r4], .int .i64 r5]) ∧ Below w.heap.size w w' := by
  obtain ⟨wa, hwa⟩ : ∃ wa, wa = (((((w.alloc (.cells #[.int .i64 a1] 3 (0, 0))).alloc (.cells #[.int .i64 a2] 3 (0, 0))).alloc (.cells #[.int .i64 a3] 3 (0, 0))).alloc (.cells #[.int .i64 a4] 3 (0, 0))).alloc (.cells #[.int .i64 a5] 3 (0, 0))).alloc (.cells #[.int .i64 0, .int .i64 0, .int .i64 0, .int .i64 0] 132 (0, 0)) := ⟨_, rfl⟩
  have hb1 : Blk wa w.heap.size #[.int .i64 a1] 3 := by rw [hwa]; exact (((((Blk.new w _ _).alloc _).alloc _).alloc _).alloc _).alloc _
  have hb2 : Blk wa (w.heap.size + 1) #[.int .i64 a2] 3 := by
    rw [hwa]; have := ((((Blk.new (w.alloc (.cells #[.int .i64 a1] 3 (0, 0))) #[.int .i64 a2] 3).alloc (.cells #[.int .i64 a3] 3 (0, 0))).alloc (.cells #[.int .i64 a4] 3 (0, 0))).alloc (.cells #[.int .i64 a5] 3 (0, 0))).alloc (.cells #[.int .i64 0, .int .i64 0, .int .i64 0, .int .i64 0] 132 (0, 0)); rwa [World.size_alloc] at this
  have hb3 : Blk wa (w.heap.size + 1 + 1) #[.int .i64 a3] 3 := by
    rw [hwa]; have := (((Blk.new ((w.alloc (.cells #[.int .i64 a1] 3 (0, 0))).alloc (.cells #[.int .i64 a2] 3 (0, 0))) #[.int .i64 a3] 3).alloc (.cells #[.int .i64 a4] 3 (0, 0))).alloc (.cells #[.int .i64 a5] 3 (0, 0))).alloc (.cells #[.int .i64 0, .int .i64 0, .int .i64 0, .int .i64 0] 132 (0, 0)); rwa [World.size_alloc, World.size_alloc] at this
  have hb4 : Blk wa (w.heap.size + 1 + 1 + 1) #[.int .i64 a4] 3 := by
    rw [hwa]; have := ((Blk.new (((w.alloc (.cells #[.int .i64 a1] 3 (0, 0))).alloc (.cells #[.int .i64 a2] 3 (0, 0))).alloc (.cells #[.int .i64 a3] 3 (0, 0))) #[.int .i64 a4] 3).alloc (.cells #[.int .i64 a5] 3 (0, 0))).alloc (.cells #[.int .i64 0, .int .i64 0, .int .i64 0, .int .i64 0] 132 (0, 0)); rwa [World.size_alloc, World.size_alloc, World.size_alloc] at this
  have hb5 : Blk wa (w.heap.size + 1 + 1 + 1 + 1) #[.int .i64 a5] 3 := by
    rw [hwa]; have := (Blk.new ((((w.alloc (.cells #[.int .i64 a1] 3 (0, 0))).alloc (.cells #[.int .i64 a2] 3 (0, 0))).alloc (.cells #[.int .i64 a3] 3 (0, 0))).alloc (.cells #[.int .i64 a4] 3 (0, 0))) #[.int .i64 a5] 3).alloc (.cells #[.int .i64 0, .int .i64 0, .int .i64 0, .int .i64 0] 132 (0, 0)); rwa [World.size_alloc, World.size_alloc, World.size_alloc, World.size_alloc] at this
  have hb6 : Blk wa (w.heap.size + 1 + 1 + 1 + 1 + 1) #[.int .i64 0, .int .i64 0, .int .i64 0, .int .i64 0] 132 := by
    rw [hwa]; have := Blk.new (((((w.alloc (.cells #[.int .i64 a1] 3 (0, 0))).alloc (.cells #[.int .i64 a2] 3 (0, 0))).alloc (.cells #[.int .i64 a3] 3 (0, 0))).alloc (.cells #[.int .i64 a4] 3 (0, 0))).alloc (.cells #[.int .i64 a5] 3 (0, 0))) #[.int .i64 0, .int .i64 0, .int .i64 0, .int .i64 0] 132; rwa [World.size_alloc, World.size_alloc, World.size_alloc, World.size_alloc, World.size_alloc] at this
  have hw1 : Below w.heap.size w wa := by rw [hwa]; exact ((((((Below.refl w.heap.size w).alloc (Nat.le_refl _) _).alloc (by simp) _).alloc (by simp; omega) _).alloc (by simp; omega) _).alloc (by simp; omega) _).alloc (by simp; omega) _
  have hz1 : wa.heap.size = w.heap.size + 6 := by rw [hwa]; simp
  have HL := Lib.hid (whole_calls a0 a1 wa)
  have HK1 := Lib.hid (leveled_calls a2 wa)
  have HK2 := Lib.hid (within_calls a3 0 a1 wa)
  have HK3 := Lib.hid (within_calls a5 1 a1 wa)
  have HK4 := Lib.hid (within_calls a4 0 (a5 - 1) wa)
  have HW1 := Lib.hid hw1
  have HZ1 := Lib.hid hz1
  have HV := Lib.hid h
  have HWA := Lib.hid hwa
  have HB1 := Lib.hid hb1
  have HB2 := Lib.hid hb2
  have HB3 := Lib.hid hb3
  have HB4 := Lib.hid hb4
  have HB5 := Lib.hid hb5
  have HB6 := Lib.hid hb6
  have c1 := hb1.cell 0
  have c2 := hb2.cell 0
  have c3 := hb3.cell 0
  have c4 := hb4.cell 0
  have c5 := hb5.cell 0
  have c60 := hb6.cell 0
  have c61 := hb6.cell 1
  have c62 := hb6.cell 2
  have c63 := hb6.cell 3
  have f60 := hb6.free 0
  have f61 := hb6.free 1
  have f62 := hb6.free 2
  have f63 := hb6.free 3
  simp at c1 c2 c3 c4 c5 c60 c61 c62 c63
  clear hw1 hz1 hb1 hb2 hb3 hb4 hb5 hb6 h hwa
  rcases Classical.em ((wholeV a0 a1).2 = 0) with he | he
  · obtain ⟨d2, d3, d4, d5⟩ := wholeV_ok he
    obtain ⟨s, rfl⟩ := Int.eq_ofNat_of_zero_le d4
    obtain ⟨D, rfl⟩ := Int.eq_ofNat_of_zero_le (show 0 ≤ a1 by omega)
    have hv := HV.out
    rw [count_Power.f, if_pos he] at hv
    rw [he] at HL
    generalize (wholeV (s : Int) (D : Int)).1 = all at *
    by_cases hok : powerOk D a2 a3 a4 a5 = true
    · rw [if_pos hok] at hv
      rw [powerOk, Bool.and_eq_true, Bool.and_eq_true, Bool.and_eq_true] at hok
      obtain ⟨⟨⟨o1, o2⟩, o3⟩, o4⟩ := hok
      rw [o1] at HK1
      rw [o2] at HK2
      rw [o3] at HK3
      rw [o4] at HK4
      rw [withinB_iff] at o1 o2 o3 o4
      obtain ⟨hi, rfl⟩ := Int.eq_ofNat_of_zero_le (show 0 ≤ a5 by omega)
      obtain ⟨lo, rfl⟩ := Int.eq_ofNat_of_zero_le o4.1
      have hpos : (0 : Int) ≤ (hi : Int) - 1 ∧ (hi : Int) ≤ 1000 := by omega
      simp only [Int.toNat_natCast, Option.some.injEq, Prod.mk.injEq] at hv
      have HV2 := Lib.hid hv
      have HO1 := Lib.hid o1
      have HO3 := Lib.hid o3
      have HO4 := Lib.hid o4
      clear he HV hv o1 o2 o3 o4
      refine (callsIn_wide (n := 9)).1 (callsIn_of_wp_marks (F := Fence.wide) (n := 9) Try.func88 rfl trivial ?_ rfl)
      refine wpIn_wide.2 ?_
      simp only [Try.ntmps88, List.size_toArray, List.length_cons, List.length_nil, Nat.reduceAdd, Nat.reduceSub, Array.replicate_succ, Array.replicate_zero, List.push_toArray, List.append_toArray, List.nil_append, List.cons_append]
      go_wp2_with fail
      rw [← HWA.out]
      refine HL.out.mono ?_
      rintro e w2 ⟨rfl, rfl⟩
      go_wp2_with fail
      refine HK1.out.mono ?_
      rintro e w2 ⟨rfl, rfl⟩
      go_wp2_with fail
      refine HK2.out.mono ?_
      rintro e w2 ⟨rfl, rfl⟩
      go_wp2_with fail
      refine HK3.out.mono ?_
      rintro e w2 ⟨rfl, rfl⟩
      go_wp2_with fail
      refine HK4.out.mono ?_
      rintro e w2 ⟨rfl, rfl⟩
      go_wp2_with fail
      obtain ⟨wb, hwb⟩ : ∃ wb, wb = (wa.alloc (.cells #[.int .i64 0, .int .i64 0, .int .i64 0, .int .i64 all] 132 (0, 0))).alloc (.cells #[.pointer none, .pointer (some ⟨wa.heap.size, 2, none⟩), .pointer (some ⟨wa.heap.size, 0, none⟩), .pointer (some ⟨wa.heap.size, 1, none⟩)] 157 (0, 0)) := ⟨_, rfl⟩
      have HZB := Lib.hid (show wb.heap.size = wa.heap.size + 2 by rw [hwb]; simp)
      have hB7 : Blk wb wa.heap.size #[.int .i64 0, .int .i64 0, .int .i64 0, .int .i64 all] 132 := by rw [hwb]; exact (Blk.new wa _ _).alloc _
      have hB8 : Blk wb (wa.heap.size + 1) #[.pointer none, .pointer (some ⟨wa.heap.size, 2, none⟩), .pointer (some ⟨wa.heap.size, 0, none⟩), .pointer (some ⟨wa.heap.size, 1, none⟩)] 157 := by
        rw [hwb]; have := Blk.new (wa.alloc (.cells #[.int .i64 0, .int .i64 0, .int .i64 0, .int .i64 all] 132 (0, 0))) #[.pointer none, .pointer (some ⟨wa.heap.size, 2, none⟩), .pointer (some ⟨wa.heap.size, 0, none⟩), .pointer (some ⟨wa.heap.size, 1, none⟩)] 157; rwa [World.size_alloc] at this
      have hwab : Below wa.heap.size wa wb := by rw [hwb]; exact ((Below.refl _ wa).alloc (Nat.le_refl _) _).alloc (by simp) _
      have HWB := Lib.hid hwb
      clear hwb
      rw [← HWB.out]
      refine (outcomes_calls s wb).mono ?_
      rintro e w2 ⟨rfl, hw2⟩
      have HW2 := Lib.hid hw2
      clear hw2
      go_wp2_with fail
      have hzb := HZB.out
      have hz2 : w2.heap.size = wa.heap.size + 3 := by rw [HW2.out]; simp [hzb]
      have hB7 := hB7.alloc (.cells #[.int .i64 s] 3 (0, 0))
      have hB8 := hB8.alloc (.cells #[.int .i64 s] 3 (0, 0))
      rw [← HW2.out] at hB7 hB8
      have hbx : w2.cell? ⟨wb.heap.size, 0, none⟩ = some (.int .i64 s) := by rw [HW2.out, (Blk.new wb #[.int .i64 s] 3).cell 0]; rfl
      have hw2 : Below wa.heap.size wa w2 := hwab.trans (by rw [HW2.out]; exact (Below.refl _ wb).alloc (by omega) _)
      refine' wp_range (n := 9) (gf := 67) (lb := #[.pointer (some ⟨wb.heap.size, 0, none⟩)]) rfl (fun _ _ => by simp [go_sem]) (iter_calls _ wb.heap.size s (by omega) w2 hbx)
        (fun h k => h.trans k) (fun W l o o' hl _ _ _ => KBx.putObj o' (by omega)) ?cx (Below.refl _ w2) (fun _ => rfl)
        (fun pre W => Blk W wa.heap.size #[.int .i64 (powV s D a2 a3 lo hi 2 pre.length), .int .i64 (powV s D a2 a3 lo hi 3 pre.length), .int .i64 (powV s D a2 a3 lo hi 1 pre.length), .int .i64 all] 132 ∧ Blk W (wa.heap.size + 1) #[.pointer none, .pointer (some ⟨wa.heap.size, 2, none⟩), .pointer (some ⟨wa.heap.size, 0, none⟩), .pointer (some ⟨wa.heap.size, 1, none⟩)] 157 ∧ Below wa.heap.size wa W ∧ w2.heap.size ≤ W.heap.size) ?own ⟨hB7, hB8, hw2, Nat.le_refl _⟩ _ ?assign ?body ?done
      case assign =>
        intro l x W K hK
        gi_wp2
        exact hK
      case cx =>
        rintro pre x W l o o' hl ho hc ⟨h1, A, c, rfl, hS⟩
        exact ⟨h1, A, c, rfl, hS.putObj ho hc⟩
      case own =>
        intro pre A B row hs hg hr
        obtain ⟨k1, k1', k2, k3⟩ := hs
        refine ⟨?_, ?_, ?_, Nat.le_trans k3 hg.size⟩
        · exact (hg.block _ k1.lt (fun e => by obtain ⟨h1, _⟩ := hr _ e.symm; omega)).trans k1
        · exact (hg.block _ k1'.lt (fun e => by obtain ⟨h1, _⟩ := hr _ e.symm; omega)).trans k1'
        · exact ⟨hg.os.trans k2.os, hg.tape.trans k2.tape, hg.output.trans k2.output, Nat.le_trans k2.size hg.size, fun k hk => (hg.block k (Nat.lt_of_lt_of_le hk k2.size) (fun e => by obtain ⟨h1, _⟩ := hr _ e.symm; omega)).trans (k2.block k hk)⟩
      case body =>
        intro l pre x W hI hX
        obtain ⟨k1, k1', k2, k3⟩ := hI
        obtain ⟨hlt, A, c, rfl, hS⟩ := hX
        generalize hj : pre.length = j at *
        have hol : (outL s j).length = s := outL_len s j
        generalize hO : outL s j = out at *
        have g1 := (HB1.out.below k2 HB1.out.lt).cell 0
        have g2 := (HB2.out.below k2 HB2.out.lt).cell 0
        have g3 := (HB3.out.below k2 HB3.out.lt).cell 0
        have g4 := (HB4.out.below k2 HB4.out.lt).cell 0
        have g5 := (HB5.out.below k2 HB5.out.lt).cell 0
        simp at g1 g2 g3 g4 g5
        have hwc : CallsIn (Fence.wide.inRound l) 6 Try.prog 48 #[.slice A s c, .int .i64 D, .int .i64 a3] W fun e w'' => e = .returned (.int .i64 (wV D a3 out 1)) ∧ W = w'' := by
          have := weight_calls A c _ out D a3 W hS (by omega)
          rw [hol] at this
          exact CallsIn.inRound l (callsIn_wide.2 this)
        have HG1 := Lib.hid (HB1.out.below k2 HB1.out.lt)
        have HG2 := Lib.hid (HB2.out.below k2 HB2.out.lt)
        have HG4 := Lib.hid (HB4.out.below k2 HB4.out.lt)
        have HG5 := Lib.hid (HB5.out.below k2 HB5.out.lt)
        have HK1' := Lib.hid k1
        have HK2' := Lib.hid k1'
        have HWC := Lib.hid hwc
        have HSl := Lib.hid hS
        have hfn : Fence.wide.fn 48 := trivial
        have hT : ∀ v, powV s D a2 a3 lo hi v (j + 1) = if 0 < wV D a3 out 1 ∧ (decideS (runS D a2 out start) D lo hi).1 = v then wrap64 (powV s D a2 a3 lo hi v j + wV D a3 out 1) else powV s D a2 a3 lo hi v j := by
          intro v
          rw [powV, hO]; rfl
        obtain ⟨dd, hdd⟩ : ∃ dd, decideS (runS D a2 out start) D lo hi = dd := ⟨_, rfl⟩
        have hd3 := decideS_val (runS D a2 out start) D lo hi
        rw [hdd] at hT hd3
        have HT := Lib.hid hT
        have HDD := Lib.hid hdd
        have HD3 := Lib.hid hd3
        clear hwc hT hS hdd hd3
        generalize wV D a3 out 1 = wt at *
        rcases Classical.em (0 < wt) with hq | hq
        · have hqb : decide (0 < wt) = true := decide_eq_true hq
          gi_wp2_with (gi_at_call 48; refine HWC.out.mono ?_; rintro e w' ⟨rfl, rfl⟩)
          refine wpIn_round_held (S := fun w' => w'.cell? ⟨w.heap.size, 0, none⟩ = some (.int .i64 (D : Int)) ∧ w'.cell? ⟨w.heap.size + 1, 0, none⟩ = some (.int .i64 a2) ∧ w'.cell? ⟨w.heap.size + 1 + 1 + 1, 0, none⟩ = some (.int .i64 (lo : Int)) ∧ w'.cell? ⟨w.heap.size + 1 + 1 + 1 + 1, 0, none⟩ = some (.int .i64 (hi : Int)))
            (by kernel_rfl) (by kernel_rfl) (fun _ _ h => h) ⟨g1, g2, g4, g5⟩ (fun hS0 => ?_)
          refine tk1 0 (.int .i64 (D : Int)) rfl (fun w' hSw => by (try dsimp only at hSw); go_simp) (by assumption) ?_
          try simp only [Act.put, xg0, xg1, xg2, xs0, xs1, xs2]
          refine tk1 1 (.int .i64 a2) rfl (fun w' hSw => by (try dsimp only at hSw); go_simp) (by assumption) ?_
          try simp only [Act.put, xg0, xg1, xg2, xs0, xs1, xs2]
          refine tk1 3 (.slice A s c) rfl (fun w' hSw => by (try dsimp only at hSw); go_simp) (by assumption) ?_
          try simp only [Act.put, xg0, xg1, xg2, xs0, xs1, xs2]
          refine tk1 5 (.int .i64 (lo : Int)) rfl (fun w' hSw => by (try dsimp only at hSw); go_simp) (by assumption) ?_
          try simp only [Act.put, xg0, xg1, xg2, xs0, xs1, xs2]
          refine tk1 6 (.int .i64 (hi : Int)) rfl (fun w' hSw => by (try dsimp only at hSw); go_simp) (by assumption) ?_
          try simp only [Act.put, xg0, xg1, xg2, xs0, xs1, xs2]
          refine wpAnyH_ready (rs := [2]) (by kernel_rfl) (by simp) ?_
          refine AllReadyH.cons (o := _) rfl (fun K hK => ?_) AllReadyH.nil
          go_simp
          refine (begin_calls D a2 _ (by omega)).mono ?_
          rintro e w3 ⟨B, L, o, cap, rfl, hb3, hB, hL, hS3⟩
          go_wp2_with fail
          have hB : W.heap.size ≤ B := hB
          have hL : W.heap.size ≤ L := hL
          have hb3 : Below W.heap.size W w3 := ⟨hb3.os, hb3.tape, hb3.output, hb3.size, hb3.block⟩
          have HS3 := Lib.hid hS3
          have HW3 := Lib.hid hb3
          have HSl3 := Lib.hid (HSl.out.below hb3)
          refine hK.out _ _ ⟨?c1, ?c2, ?c4, ?c5⟩ (fun hHeld => ?_)
          case c1 => exact (HG1.out.below hb3 HG1.out.lt).cell 0
          case c2 => exact (HG2.out.below hb3 HG2.out.lt).cell 0
          case c4 => exact (HG4.out.below hb3 HG4.out.lt).cell 0
          case c5 => exact (HG5.out.below hb3 HG5.out.lt).cell 0
          clear hK K hS3 hb3
          try simp only [Act.put, xg0, xg1, xg2, xs0, xs1, xs2]
          refine wpAnyH_ready (rs := [4]) (by kernel_rfl) (by simp) ?_
          refine AllReadyH.cons (o := _) rfl (fun K hK => ?_) AllReadyH.nil
          go_simp
          have hrun := run_calls B L o cap D 0 a2 start A c W.heap.size out w3 HS3.out (by omega) (by omega) (InvS.start D) (by omega) HSl3.out hB hL HO1.out.1 HO1.out.2
          rw [hol] at hrun
          refine hrun.mono ?_
          clear hrun
          rintro e w4 ⟨rfl, kk4, hS4⟩
          go_wp2_with fail
          have HS4 := Lib.hid hS4
          have hb4 : Below W.heap.size W w4 := HW3.out.trans (kk4.below HW3.out.size (by simp; omega))
          have HW4 := Lib.hid hb4
          refine hK.out _ _ ⟨?c1, ?c2, ?c4, ?c5⟩ (fun hHeld => ?_)
          case c1 => exact (HG1.out.below hb4 HG1.out.lt).cell 0
          case c2 => exact (HG2.out.below hb4 HG2.out.lt).cell 0
          case c4 => exact (HG4.out.below hb4 HG4.out.lt).cell 0
          case c5 => exact (HG5.out.below hb4 HG5.out.lt).cell 0
          clear hK K hS4 hb4 kk4 hS0
          try simp only [Act.put, xg0, xg1, xg2, xs0, xs1, xs2]
          refine wpAnyH_ready (rs := [7]) (by kernel_rfl) (by simp) ?_
          refine AllReadyH.cons (o := _) rfl (fun K hK => ?_) AllReadyH.nil
          go_simp
          have hdec := decide_calls B L o cap D lo hi a2 _ _ w4 HS4.out (by omega) (by have h1 := HO4.out; have h2 := HO3.out; omega)
          rw [HDD.out] at hdec
          refine hdec.mono ?_
          clear hdec
          rintro e w5 ⟨rfl, rfl⟩
          go_wp2_with fail
          refine hK.out _ _ ‹_› (fun hHeld2 => ?_)
          clear hK K hHeld2
          try simp only [Act.put, xg0, xg1, xg2, xs0, xs1, xs2]
          refine tk1 8 (.tuple #[.int .i64 dd.1, .int .i64 dd.2]) rfl (fun w' hSw => by (try dsimp only at hSw); go_simp) (by assumption) ?_
          try simp only [Act.put, xg0, xg1, xg2, xs0, xs1, xs2]
          refine tk1 9 (.int .i64 dd.1) rfl (fun w' hSw => by (try dsimp only at hSw); go_simp) (by assumption) ?_
          try simp only [Act.put, xg0, xg1, xg2, xs0, xs1, xs2]
          refine tk1 10 (.int .i64 dd.2) rfl (fun w' hSw => by (try dsimp only at hSw); go_simp) (by assumption) ?_
          try simp only [Act.put, xg0, xg1, xg2, xs0, xs1, xs2]
          refine tk1 11 (.int .i64 dd.1) rfl (fun w' hSw => by (try dsimp only at hSw); go_simp) (by assumption) ?_
          try simp only [Act.put, xg0, xg1, xg2, xs0, xs1, xs2]
          refine tk1 12 (.int .i64 dd.2) rfl (fun w' hSw => by (try dsimp only at hSw); go_simp) (by assumption) ?_
          try simp only [Act.put, xg0, xg1, xg2, xs0, xs1, xs2]
          refine wpAnyH_done (by kernel_rfl) ?_ _
          have hb4 := HW4.out
          have m1 := HK1'.out.below hb4 HK1'.out.lt
          have m2 := HK2'.out.below hb4 HK2'.out.lt
          have n0 := m1.cell 0
          have n1 := m1.cell 1
          have n2 := m1.cell 2
          have q0 := m1.free 0
          have q1 := m1.free 1
          have q2 := m1.free 2
          have p1 := m2.cell 1
          have p2 := m2.cell 2
          have p3 := m2.cell 3
          simp at n0 n1 n2 p1 p2 p3
          obtain ⟨dv, dn⟩ := dd
          have hd3 := HD3.out
          have t1 := HT.out 1
          have t2 := HT.out 2
          have t3 := HT.out 3
          simp only at hd3 t1 t2 t3
          clear HD3 HT HDD HS4 HS3 hHeld
          rcases hd3 with rfl | rfl | rfl
          · rw [if_pos ⟨hq, rfl⟩] at t1
            rw [if_neg (fun h => by have := h.2; omega)] at t2 t3
            gi_wp2
            refine ⟨⟨Nat.le_trans hb4.size (by simp), fun k o hl hk ho => (Below.heap_setCell _ _ _ _ (by simp; omega)).trans ((hb4.block k ((Array.getElem?_eq_some_iff.1 hk).1)).trans hk)⟩, ⟨(Below.heap_setCell _ _ _ _ (by simp; omega)).trans (hb4.block _ (by omega)), Nat.le_trans hb4.size (by simp)⟩, ?_, ?_, ?_, Nat.le_trans k3 (Nat.le_trans hb4.size (by simp))⟩
            · simp only [List.length_append, List.length_singleton, hj, t1, t2, t3, ← wrap_eq']
              exact m1.setCell 2 _
            · exact m2.other (by simp) _
            · exact k2.trans ((hb4.mono k2.size).trans ((Below.refl wa.heap.size w4).setCell (p := ⟨wa.heap.size, 2, none⟩) (Nat.le_refl _) _))
          · rw [if_pos ⟨hq, rfl⟩] at t2
            rw [if_neg (fun h => by have := h.2; omega)] at t1 t3
            gi_wp2
            refine ⟨⟨Nat.le_trans hb4.size (by simp), fun k o hl hk ho => (Below.heap_setCell _ _ _ _ (by simp; omega)).trans ((hb4.block k ((Array.getElem?_eq_some_iff.1 hk).1)).trans hk)⟩, ⟨(Below.heap_setCell _ _ _ _ (by simp; omega)).trans (hb4.block _ (by omega)), Nat.le_trans hb4.size (by simp)⟩, ?_, ?_, ?_, Nat.le_trans k3 (Nat.le_trans hb4.size (by simp))⟩
            · simp only [List.length_append, List.length_singleton, hj, t1, t2, t3, ← wrap_eq']
              exact m1.setCell 0 _
            · exact m2.other (by simp) _
            · exact k2.trans ((hb4.mono k2.size).trans ((Below.refl wa.heap.size w4).setCell (p := ⟨wa.heap.size, 0, none⟩) (Nat.le_refl _) _))
          · rw [if_pos ⟨hq, rfl⟩] at t3
            rw [if_neg (fun h => by have := h.2; omega)] at t1 t2
            gi_wp2
            refine ⟨⟨Nat.le_trans hb4.size (by simp), fun k o hl hk ho => (Below.heap_setCell _ _ _ _ (by simp; omega)).trans ((hb4.block k ((Array.getElem?_eq_some_iff.1 hk).1)).trans hk)⟩, ⟨(Below.heap_setCell _ _ _ _ (by simp; omega)).trans (hb4.block _ (by omega)), Nat.le_trans hb4.size (by simp)⟩, ?_, ?_, ?_, Nat.le_trans k3 (Nat.le_trans hb4.size (by simp))⟩
            · simp only [List.length_append, List.length_singleton, hj, t1, t2, t3, ← wrap_eq']
              exact m1.setCell 1 _
            · exact m2.other (by simp) _
            · exact k2.trans ((hb4.mono k2.size).trans ((Below.refl wa.heap.size w4).setCell (p := ⟨wa.heap.size, 1, none⟩) (Nat.le_refl _) _))
        · have hqb : decide (0 < wt) = false := decide_eq_false hq
          gi_wp2_with (gi_at_call 48; refine HWC.out.mono ?_; rintro e w' ⟨rfl, rfl⟩)
          exact ⟨KeepsFrom.refl _ _, KBx.refl _ _, by have h2 := HT.out 2; have h3 := HT.out 3; have h1 := HT.out 1; rw [if_neg (fun h => by have := h.1; omega)] at h1 h2 h3; simp only [List.length_append, List.length_singleton, hj, h1, h2, h3]; exact k1, k1', k2, by omega⟩
      case done =>
        intro Dd xs W hD hS hI hK
        obtain ⟨k1, k1', k2, k3⟩ := hI
        rw [hS] at k1
        have m6 := HB6.out.below k2 HB6.out.lt
        have n0 := k1.cell 0
        have n1 := k1.cell 1
        have n2 := k1.cell 2
        have n3 := k1.cell 3
        have q0 := m6.free 0
        have q1 := m6.free 1
        have q2 := m6.free 2
        have q3 := m6.free 3
        have p0 := m6.cell 0
        have p1 := m6.cell 1
        have p2 := m6.cell 2
        have p3 := m6.cell 3
        simp at n0 n1 n2 n3 p0 p1 p2 p3
        obtain ⟨rfl, rfl, rfl, rfl, rfl⟩ := HV2.out
        go_wp2
        have hne : ∀ o, (⟨w.heap.size + 1 + 1 + 1 + 1 + 1, o, none⟩ : Addr).block ≠ Dd := fun o => by have := HZ1.out; simp; omega
        have hbF := blk_four (.int .i64 (powV s D a2 a3 lo hi 2 (2 ^ s))) (.int .i64 (powV s D a2 a3 lo hi 3 (2 ^ s))) (.int .i64 (powV s D a2 a3 lo hi 1 (2 ^ s))) (.int .i64 all) m6
        have hbP : Blk (World.putObj _ Dd (.deferred none)) _ _ _ := (World.putObj_heap_other (hne 0)).trans hbF
        have hK4 := (Below.heap_setCell (((W.setCell ⟨w.heap.size + 1 + 1 + 1 + 1 + 1, 0, none⟩ (.int .i64 (powV s D a2 a3 lo hi 2 (2 ^ s)))).setCell ⟨w.heap.size + 1 + 1 + 1 + 1 + 1, 1, none⟩ (.int .i64 (powV s D a2 a3 lo hi 3 (2 ^ s)))).setCell ⟨w.heap.size + 1 + 1 + 1 + 1 + 1, 2, none⟩ (.int .i64 (powV s D a2 a3 lo hi 1 (2 ^ s)))) ⟨w.heap.size + 1 + 1 + 1 + 1 + 1, 3, none⟩ (.int .i64 all) Dd (hne 3).symm).trans ((Below.heap_setCell _ _ _ _ (hne 2).symm).trans ((Below.heap_setCell _ _ _ _ (hne 1).symm).trans ((Below.heap_setCell _ _ _ _ (hne 0).symm).trans hK)))
        refine ⟨by simp, .inl ⟨_, _, rfl, run_takeDeferred hK4, ⟨_, results_ct rfl _ _ (w.heap.size + 1 + 1 + 1 + 1 + 1) 132 _ (0, 0) _ rfl hbP Try.underlying132 rfl (by kernel_rfl), rfl, ?_⟩⟩⟩
        have hm := HZ1.out
        have hb0 : Below w.heap.size w W := HW1.out.trans (k2.mono (by omega))
        exact (below_four _ _ _ _ hb0 (by omega)).trans (below_put _ _ (by omega))
    · rw [if_neg hok] at hv
      simp only [Option.some.injEq, Prod.mk.injEq] at hv
      have HV2 := Lib.hid hv
      have hpos : powerOk (D : Int) a2 a3 a4 a5 = false := by simpa using hok
      rw [powerOk] at hpos
      clear he HV hv hok
      rcases o1 : withinB a2 2 900000 with _ | _
      · rw [o1] at HK1
        clear o1 hpos
        go_enter Try.func88, Try.ntmps88
        go_wp2_with fail
        rw [← HWA.out]
        refine HL.out.mono ?_
        rintro e w2 ⟨rfl, rfl⟩
        go_wp2_with fail
        refine HK1.out.mono ?_
        rintro e w2 ⟨rfl, rfl⟩
        go_wp2_with fail
        have hbF := blk_four (.int .i64 0) (.int .i64 0) (.int .i64 0) (.int .i64 0) HB6.out
        obtain ⟨rfl, rfl, rfl, rfl, rfl⟩ := HV2.out
        refine bodyPost_ret (results_ct rfl _ _ (w.heap.size + 1 + 1 + 1 + 1 + 1) 132 _ (0, 0) _ rfl hbF Try.underlying132 rfl (by kernel_rfl)) rfl ?_
        exact ⟨rfl, below_four _ _ _ _ HW1.out (by omega)⟩
      · rw [o1] at HK1 hpos
        rcases o2 : withinB a3 0 (D : Int) with _ | _
        · rw [o2] at HK2
          clear o1 o2 hpos
          go_enter Try.func88, Try.ntmps88
          go_wp2_with fail
          rw [← HWA.out]
          refine HL.out.mono ?_
          rintro e w2 ⟨rfl, rfl⟩
          go_wp2_with fail
          refine HK1.out.mono ?_
          rintro e w2 ⟨rfl, rfl⟩
          go_wp2_with fail
          refine HK2.out.mono ?_
          rintro e w2 ⟨rfl, rfl⟩
          go_wp2_with fail
          have hbF := blk_four (.int .i64 0) (.int .i64 0) (.int .i64 0) (.int .i64 0) HB6.out
          obtain ⟨rfl, rfl, rfl, rfl, rfl⟩ := HV2.out
          refine bodyPost_ret (results_ct rfl _ _ (w.heap.size + 1 + 1 + 1 + 1 + 1) 132 _ (0, 0) _ rfl hbF Try.underlying132 rfl (by kernel_rfl)) rfl ?_
          exact ⟨rfl, below_four _ _ _ _ HW1.out (by omega)⟩
        · rw [o2] at HK2 hpos
          rcases o3 : withinB a5 1 (D : Int) with _ | _
          · rw [o3] at HK3
            clear o1 o2 o3 hpos
            go_enter Try.func88, Try.ntmps88
            go_wp2_with fail
            rw [← HWA.out]
            refine HL.out.mono ?_
            rintro e w2 ⟨rfl, rfl⟩
            go_wp2_with fail
            refine HK1.out.mono ?_
            rintro e w2 ⟨rfl, rfl⟩
            go_wp2_with fail
            refine HK2.out.mono ?_
            rintro e w2 ⟨rfl, rfl⟩
            go_wp2_with fail
            refine HK3.out.mono ?_
            rintro e w2 ⟨rfl, rfl⟩
            go_wp2_with fail
            have hbF := blk_four (.int .i64 0) (.int .i64 0) (.int .i64 0) (.int .i64 0) HB6.out
            obtain ⟨rfl, rfl, rfl, rfl, rfl⟩ := HV2.out
            refine bodyPost_ret (results_ct rfl _ _ (w.heap.size + 1 + 1 + 1 + 1 + 1) 132 _ (0, 0) _ rfl hbF Try.underlying132 rfl (by kernel_rfl)) rfl ?_
            exact ⟨rfl, below_four _ _ _ _ HW1.out (by omega)⟩
          · rw [o3] at HK3 hpos
            rw [Bool.true_and, Bool.true_and, Bool.true_and] at hpos
            rw [hpos] at HK4
            have hbd : (-1000 : Int) ≤ a5 ∧ a5 ≤ 1000 := by have := withinB_iff.1 o3; omega
            obtain ⟨hbd1, hbd2⟩ := hbd
            clear o1 o2 o3 hpos
            go_enter Try.func88, Try.ntmps88
            go_wp2_with fail
            rw [← HWA.out]
            refine HL.out.mono ?_
            rintro e w2 ⟨rfl, rfl⟩
            go_wp2_with fail
            refine HK1.out.mono ?_
            rintro e w2 ⟨rfl, rfl⟩
            go_wp2_with fail
            refine HK2.out.mono ?_
            rintro e w2 ⟨rfl, rfl⟩
            go_wp2_with fail
            refine HK3.out.mono ?_
            rintro e w2 ⟨rfl, rfl⟩
            go_wp2_with fail
            refine HK4.out.mono ?_
            rintro e w2 ⟨rfl, rfl⟩
            go_wp2_with fail
            have hbF := blk_four (.int .i64 0) (.int .i64 0) (.int .i64 0) (.int .i64 0) HB6.out
            obtain ⟨rfl, rfl, rfl, rfl, rfl⟩ := HV2.out
            refine bodyPost_ret (results_ct rfl _ _ (w.heap.size + 1 + 1 + 1 + 1 + 1) 132 _ (0, 0) _ rfl hbF Try.underlying132 rfl (by kernel_rfl)) rfl ?_
            exact ⟨rfl, below_four _ _ _ _ HW1.out (by omega)⟩
  · have hv := HV.out
    rw [count_Power.f, if_neg he] at hv
    simp only [Option.some.injEq, Prod.mk.injEq] at hv
    have hne : ((wholeV a0 a1).2 != 0) = true := by simp [he]
    have hne2 : ((wholeV a0 a1).2 == 0) = false := by simp [he]
    have HV2 := Lib.hid hv
    clear he HV hv
    generalize (wholeV a0 a1).1 = all at *
    generalize (wholeV a0 a1).2 = er at *
    go_enter Try.func88, Try.ntmps88
    go_wp2_with fail
    rw [← HWA.out]
    refine HL.out.mono ?_
    rintro e w2 ⟨rfl, rfl⟩
    go_wp2_with fail
    have hbF := blk_four (.int .i64 0) (.int .i64 0) (.int .i64 0) (.int .i64 0) HB6.out
    obtain ⟨rfl, rfl, rfl, rfl, rfl⟩ := HV2.out
    refine bodyPost_ret (results_ct rfl _ _ (w.heap.size + 1 + 1 + 1 + 1 + 1) 132 _ (0, 0) _ rfl hbF Try.underlying132 rfl (by kernel_rfl)) rfl ?_
    exact ⟨rfl, below_four _ _ _ _ HW1.out (by omega)⟩
end Go.Proofs.Yteigcddmbpfahaa.Cn
namespace Go.Proofs.Yteigcddmbpfahaa.Cn
open Go.RowKit Go.Proofs.YteigcddmbpfahaaW.PrintWords Go.Proofs.YteigcddmbpfahaaW.PrintLast

theorem wrap_id {x : Int} (h1 : -9223372036854775808 ≤ x) (h2 : x < 9223372036854775808) : wrap64 x = x := by
  unfold wrap64; omega

theorem mul_le_nn {a b c d : Int} (h1 : a ≤ c) (h2 : b ≤ d) (ha : 0 ≤ b) (hc : 0 ≤ c) : a * b ≤ c * d :=
  Int.le_trans (Int.mul_le_mul_of_nonneg_right h1 ha) (Int.mul_le_mul_of_nonneg_left h2 hc)

theorem hitV_nn {D n h k c : Int} (hc : 0 ≤ c) (hh : 0 ≤ h) (hD : 0 ≤ D) (hn : 0 ≤ n) (hk : 0 ≤ k) : 0 ≤ hitV D n h k c := by
  unfold hitV
  split
  · omega
  · split
    · exact hc
    · refine Int.le_min.2 ⟨by omega, Int.ediv_nonneg (Int.mul_nonneg (Int.mul_nonneg hc (by omega)) hD) (Int.mul_nonneg (by omega) hk)⟩
theorem missV_nn {D n h k c : Int} (hc : 0 ≤ c) (hh : h ≤ n) (hD : 0 ≤ D) (hn : 0 ≤ n) (hk : k ≤ D) : 0 ≤ missV D n h k c := by
  unfold missV
  split
  · exact hc
  · split
    · omega
    · refine Int.le_min.2 ⟨by omega, Int.ediv_nonneg (Int.mul_nonneg (Int.mul_nonneg hc (by omega)) hD) (Int.mul_nonneg (by omega) (by omega))⟩
end Go.Proofs.Yteigcddmbpfahaa.Cn
