import Derived.Test.YteigcddmbpfahaaGh
namespace Go.Proofs.Yteigcddmbpfahaa.Cn
set_option linter.unusedVariables false
set_option linter.unusedSimpArgs false
open Go.RowKit Go.Proofs.YteigcddmbpfahaaW.PrintWords Go.Proofs.YteigcddmbpfahaaW.PrintLast Go.Proofs.YteigcddmbpfahaaW.PrintMore Go.Proofs.Yteigcddmbpfahaa.Pc

section
variable {P : Program} {ops : Array Oper} {Q : Exit → Act → World → Prop}
theorem wpList_append_eq {rest : List Oper} {o : Oper} {a : Act} {w w' : World} {v' : Value} (hgd : o.guard = none) (s x : Operand) (t : TypeId)
    (ho : o.op = .call { callee := .builtin .append, args := #[s, x], argTypes := #[t, t] }) (v y : Value) (hs : a.eval s = v) (hx : a.eval x = y)
    (hrun : (Builtin.append_ #[t, t] o.type #[v, y]).run P w = .ok v' w') (h : wpList P ops Q rest (a.put o.dst v') w') : wpList P ops Q (o :: rest) a w := by
  refine wpList_plain hgd fun K hK => ?_
  unfold Oper.wp execOp
  simp only [ho, resolve, invoke, builtin, Sem.run_bind, Sem.run_pure, Result.andThen_ok, List.map_toArray, List.map_cons, List.map_nil, hs, hx, hrun]
  exact hK _ _ h
def ToQ (a' : Act) (w' : World) : Exit → Act → World → Prop
  | .normal, x, y => x = a' ∧ y = w'
  | _, _, _ => False
theorem region_to {id : Nat} {a a' : Act} {w w' : World} (h : (Code.region id ops true).wp P (ToQ a' w') a w) (hq : Q .normal a' w') : (Code.region id ops true).wp P Q a w :=
  wp_mono h (fun e x y hh => by
    cases e with
    | normal => obtain ⟨rfl, rfl⟩ := hh; exact hq
    | ret => exact hh.elim
    | exit id => exact hh.elim
    | goto t => exact hh.elim
    | panic ch => exact hh.elim
    | outgrown => exact hh.elim)
end

theorem eqIn_nil {P : Program} (d : Nat) {t e : TypeId} (ht : P.underlying t = some (.slice e)) (a : Addr) (n c : Nat) (w : World) : (Op.equalIn (d + 1) t (.slice (some a) n c) (.slice none 0 0)).run P w = .ok false w := by
  simp [Op.equalIn, run_underlying ht, Result.andThen]
theorem eqIn_nil2 {P : Program} (d : Nat) {t e : TypeId} (ht : P.underlying t = some (.slice e)) (w : World) : (Op.equalIn (d + 1) t (.slice none 0 0) (.slice none 0 0)).run P w = .ok true w := by
  simp [Op.equalIn, run_underlying ht, Result.andThen]
theorem eql_nil (a : Addr) (n c : Nat) (w : World) : (binOp .eql 44 (.slice (some a) n c) (.slice none 0 0)).run Try.prog w = .ok (.bool false) w := by
  have h := eqIn_nil (P := Try.prog) 9999 Try.underlying44 a n c w
  simp only [binOp, Op.equal, Op.maxDepth]
  simp [h, Result.andThen]
theorem eql_nil2 (w : World) : (binOp .eql 44 (.slice none 0 0) (.slice none 0 0)).run Try.prog w = .ok (.bool true) w := by
  have h := eqIn_nil2 (P := Try.prog) 9999 Try.underlying44 w
  simp only [binOp, Op.equal, Op.maxDepth]
  simp [h, Result.andThen]
set_option maxRecDepth 100000 in
set_option maxHeartbeats 2000000 in
/-- slices.Clone of a list that is not empty -/
theorem clone_calls (ad : Addr) (c : Nat) (l : List Int) (w : World) (hr : Kd.C (Kd.int .i64) w (some ad) l.length l) (hl0 : 0 < l.length) (hl : l.length ≤ 1000) :
    Calls Try.prog 64 #[.slice (some ad) l.length c] w fun e w' => ∃ g c', e = .returned (.slice (some ⟨g, 0, none⟩) l.length c') ∧ Kd.C (Kd.int .i64) w' (some ⟨g, 0, none⟩) l.length l ∧ l.length ≤ c' ∧ w.heap.size ≤ g ∧ Below w.heap.size w w' := by
  obtain ⟨i0, hi, hz0, hz1, hz2⟩ := info_parts info_i
  have hCw := Kd.C_alloc hr (.cells #[] 3 (0, 0))
  have hown : (w.alloc (.cells #[] 3 (0, 0))).ownsRow w.heap.size 3 1 (.slice (some ⟨w.heap.size, 0, none⟩) 0 0) 0 [] := World.ownsRow_lit w #[] 0 (Nat.le_refl _) (by simp [maxLen]) rfl
  obtain ⟨v2, w2, hrun, h2, h3, h4, h5⟩ := run_append_own_at (P := Try.prog) (w.alloc (.cells #[] 3 (0, 0))) w.heap.size 44 44 3 i0 (.int .i64 0) 1 8 Try.underlying44 hi hz0 hz1 hz2 rfl (by decide) (.slice (some ⟨w.heap.size, 0, none⟩) 0 0) 0 [] hown
    ad l.length c (nums .i64 l) (by simp [nums]) (fun j u hu => by
      obtain ⟨_, _, h3⟩ := hCw
      obtain ⟨ad', e, hc⟩ := h3 hl0
      cases e
      have hj : j < l.length := by
        have := (List.getElem?_eq_some_iff.1 hu).1
        simpa [nums] using this
      obtain ⟨cs, hlen, hk, hcs⟩ := hc j l[j] (by simp [hj])
      have hk2 : cs = [.int .i64 l[j]] := hk
      have hcell := hcs 0 _ (by rw [hk2]; rfl)
      have e1 : j * (Kd.int .i64).sz + 0 = j := by show j * 1 + 0 = j; omega
      rw [e1] at hcell
      have hu2 : u = .int .i64 l[j] := by
        have := (List.getElem?_eq_some_iff.1 hu).2
        simp [nums] at this
        exact this.symm
      rw [hu2]; exact hcell) (fun u hu => by
      obtain ⟨x, _, rfl⟩ := List.mem_map.1 hu
      rfl) (by simp only [maxLen]; omega) (by omega) (by simp)
  have hn : 0 + l.length = l.length := Nat.zero_add _
  rw [hn, List.nil_append] at h2
  obtain ⟨A2, c2, hv2, hC2, hl2, hA2, hg2⟩ := row_reads h2
  obtain ⟨g, hg3⟩ := hg2 hl0
  subst hg3
  subst hv2
  have hbase := own_base h2 g rfl
  have hb : Below w.heap.size w w2 := ⟨h3.os, h3.tape, h3.output, by have := h3.size; simp at this; omega, fun k hk => (h3.block k (by simp; omega) (fun e => by simp [Value.ownBlock] at e; omega)).trans (Below.heap_alloc _ _ _ hk)⟩
  have heq := eql_nil ad l.length c
  have HRUN := Lib.hid hrun
  have HP := Lib.hid (And.intro hC2 (And.intro hl2 (And.intro hbase hb)))
  clear hr hrun h2 h3 h4 h5 hC2 hl2 hA2 hg2 hCw hown hbase hb
  go_enter Try.func64, Try.ntmps64
  go_wp2_with ((with_reducible refine gate_builtin (b := .append) (xs := #[.tmp 5, .tmp 6]) rfl ?_); at_builtin; refine wpList_append_eq rfl (.tmp 5) (.tmp 6) _ rfl _ _ rfl rfl HRUN.out ?_)
  go_ret
  exact ⟨g, c2, rfl, HP.out⟩

structure BSt where
  best : List Int
  w : Int
  a : Int
  g : Int
def bestStep (P : Int) (s : Nat) (ss : List S58) (lv N : Int) (st : BSt) (l : List Int) : BSt :=
  if st.g < oddsW P s ss lv false l * (N / oddsA P s ss lv false l) ∨ (oddsW P s ss lv false l * (N / oddsA P s ss lv false l) = st.g ∧ costV ss l < costV ss st.best) then ⟨l, oddsW P s ss lv false l, oddsA P s ss lv false l, oddsW P s ss lv false l * (N / oddsA P s ss lv false l)⟩ else st
def bestOf (P : Int) (s : Nat) (ss : List S58) (lv N : Int) (L : List (List Int)) : BSt := L.foldl (bestStep P s ss lv N) ⟨[], 0, 0, -1⟩
structure OddsOk (P : Int) (s : Nat) (ss : List S58) (lv N : Int) (l : List Int) : Prop where
  a1 : 1 ≤ oddsA P s ss lv false l
  a2 : oddsA P s ss lv false l ≤ 1152921504606846976
  w0 : 0 ≤ oddsW P s ss lv false l
  w1 : oddsW P s ss lv false l ≤ 1152921504606846976
  p0 : 0 ≤ oddsW P s ss lv false l * (N / oddsA P s ss lv false l)
  p1 : oddsW P s ss lv false l * (N / oddsA P s ss lv false l) ≤ 1152921504606846976

theorem CxY.put {ss : List S58} {bu : Int} {pre : List Yld} {x : Yld} {W : World} {l : Nat} {o : Obj} (o' : Obj) (ho : W.heap[l]? = some o) (hc : o.isCells = false) (h : CxY ss bu pre x W) : CxY ss bu pre x (W.putObj l o') := by
  obtain ⟨h1, h2, h3⟩ := h
  refine ⟨h1, ?_, h3⟩
  obtain ⟨a1, a2, a3⟩ := h2
  refine ⟨a1, a2, fun hn => ?_⟩
  obtain ⟨ad, e, hr⟩ := a3 hn
  refine ⟨ad, e, fun j p hp => ?_⟩
  obtain ⟨cs, hl, hk, hcs⟩ := hr j p hp
  refine ⟨cs, hl, hk, fun i u hu => ?_⟩
  have hcell := hcs i u hu
  obtain ⟨o1, ho1, hc1⟩ := cells_of_cell hcell
  have hne : (ad.add (j * (Kd.int .i64).sz + i)).block ≠ l := fun e2 => by rw [e2, ho] at ho1; cases ho1; rw [hc] at hc1; cases hc1
  unfold World.cell? at hcell ⊢
  rw [World.putObj_heap_other hne]
  exact hcell
structure Rnd (m bb bo bg : Nat) (W W' : World) : Prop where
  os : W'.os = W.os
  tape : W'.tape = W.tape
  output : W'.output = W.output
  size : W.heap.size ≤ W'.heap.size
  block : ∀ k, k < W.heap.size → k ≠ m → k ≠ bb → k ≠ bo → k ≠ bg → W'.heap[k]? = W.heap[k]?
theorem Rnd.of_but {m bb bo bg : Nat} {W W' : World} (h : But m W W') : Rnd m bb bo bg W W' := ⟨h.os, h.tape, h.output, h.size, fun k hk hm _ _ _ => h.block k hk hm⟩
theorem Rnd.then_below {m bb bo bg : Nat} {W X Y : World} (h : Rnd m bb bo bg W X) (k : Below X.heap.size X Y) : Rnd m bb bo bg W Y :=
  ⟨k.os.trans h.os, k.tape.trans h.tape, k.output.trans h.output, Nat.le_trans h.size k.size, fun i hi a b c d => (k.block i (Nat.lt_of_lt_of_le hi h.size)).trans (h.block i hi a b c d)⟩
theorem Rnd.set {m bb bo bg : Nat} {W X : World} (h : Rnd m bb bo bg W X) (p : Addr) (v : Value) (hp : p.block = bb ∨ p.block = bo ∨ p.block = bg) : Rnd m bb bo bg W (X.setCell p v) :=
  ⟨h.os, h.tape, h.output, by simpa using h.size, fun i hi a b c d => (Below.heap_setCell _ _ _ _ (by rcases hp with e | e | e <;> rw [e] <;> assumption)).trans (h.block i hi a b c d)⟩
theorem Rnd.blk {m bb bo bg : Nat} {W X : World} (h : Rnd m bb bo bg W X) {n : Nat} {cs : Array Value} {t : TypeId} (hb : Blk W n cs t) (h1 : n ≠ m) (h2 : n ≠ bb) (h3 : n ≠ bo) (h4 : n ≠ bg) : Blk X n cs t := by
  have hl := Blk.lt hb
  unfold Blk at *
  rw [h.block n hl h1 h2 h3 h4]; exact hb

structure BFix (B b m b1 br ba bb bo bg bt lo : Nat) (A : Option Addr) : Prop where
  Bm : B ≤ m
  Bb : B ≤ b
  B1 : B ≤ br ∧ B ≤ bb ∧ B ≤ bo ∧ B ≤ bg
  ne : b ≠ m ∧ b1 ≠ m ∧ br ≠ m ∧ ba ≠ m ∧ bb ≠ m ∧ bo ≠ m ∧ bg ≠ m ∧ bt ≠ m
  lt : b < lo ∧ m < lo ∧ b1 < lo ∧ br < lo ∧ ba < lo ∧ bb < lo ∧ bo < lo ∧ bg < lo ∧ bt < lo
  b : b < b1
  d : b1 < br ∧ br < ba ∧ ba < bb ∧ bb < bo ∧ bo < bg ∧ bg < bt
  s : ∀ ad, A = some ad → ad.block < b1 ∧ ad.block ≠ m
structure BestI (w : World) (B b m b1 br ba bb bo bg lo : Nat) (P lv bu : Int) (A : Option Addr) (c : Nat) (ss : List S58) (s : Nat) (N : Int) (O : Nat → Prop) (pre : List Yld) (W : World) : Prop where
  tel : ∃ L, Tel W b m P lv bu A c ss s L
  sites : Kd.C k58 W A ss.length ss
  bx1 : Blk W b1 #[.pointer (some ⟨b, 0, none⟩)] 90
  bxr : Blk W br #[.int .i64 0, .int .i64 0] 48
  bxa : Blk W ba #[.int .i64 N] 3
  bxo : Blk W bo #[.int .i64 (bestOf P s ss lv N (pre.map lstY)).w, .int .i64 (bestOf P s ss lv N (pre.map lstY)).a] 48
  bxg : Blk W bg #[.int .i64 (bestOf P s ss lv N (pre.map lstY)).g] 3
  bxb : ∃ A' c', Blk W bb #[.slice A' (bestOf P s ss lv N (pre.map lstY)).best.length c'] 44 ∧ Kd.C (Kd.int .i64) W A' (bestOf P s ss lv N (pre.map lstY)).best.length (bestOf P s ss lv N (pre.map lstY)).best ∧ (bestOf P s ss lv N (pre.map lstY)).best.length ≤ c' ∧
    (∀ ad, A' = some ad → lo ≤ ad.block ∧ ¬ O ad.block) ∧ (A' = none → (bestOf P s ss lv N (pre.map lstY)).best = [] ∧ c' = 0) ∧ ((bestOf P s ss lv N (pre.map lstY)).best = [] → A' = none) ∧ InS ss (bestOf P s ss lv N (pre.map lstY)).best ∧ (bestOf P s ss lv N (pre.map lstY)).best.length ≤ 3
  bel : Below B w W
  size : lo ≤ W.heap.size

theorem ints_blk {w w' : World} {A : Option Addr} {n : Nat} {xs : List Int} (hc : ∀ ad, A = some ad → 0 < n → w'.heap[ad.block]? = w.heap[ad.block]?) (h : Kd.C (Kd.int .i64) w A n xs) : Kd.C (Kd.int .i64) w' A n xs := by
  rcases Nat.eq_zero_or_pos n with hn | hn
  · obtain ⟨h1, h2, _⟩ := h
    exact ⟨h1, h2, fun h => by omega⟩
  · exact C_blk (w := w) (w' := w') (fun x cs hk => hk) (fun ad e => hc ad e hn) h
theorem ints_lt {w : World} {ad : Addr} {n : Nat} {xs : List Int} (h : Kd.C (Kd.int .i64) w (some ad) n xs) (hn : 0 < n) : ∃ o, w.heap[ad.block]? = some o ∧ o.isCells = true := by
  obtain ⟨ad', e, hc⟩ := int_at h 0 hn
  cases e
  have e2 : (ad.add 0) = ad := by simp [Addr.add]
  rw [e2] at hc
  exact cells_of_cell hc

theorem BestI.held {w : World} {B b m b1 br ba bb bo bg bt lo : Nat} {P lv bu : Int} {A : Option Addr} {c : Nat} {ss : List S58} {s : Nat} {N : Int} (hf : BFix B b m b1 br ba bb bo bg bt lo A) (O O' : Nat → Prop) (pre : List Yld) (X Y : World)
    (h : BestI w B b m b1 br ba bb bo bg lo P lv bu A c ss s N O pre X) (hh : Held lo O X Y) (hO : ∀ k, O' k → O k ∨ X.heap.size ≤ k) : BestI w B b m b1 br ba bb bo bg lo P lv bu A c ss s N O' pre Y := by
  obtain ⟨l1, l2, l3, l4, l5, l6, l7, l8, l9⟩ := hf.lt
  obtain ⟨L, ht⟩ := h.tel
  obtain ⟨A', c', g1, g2, g3, g4, g5, g6, g7, g8⟩ := h.bxb
  have kp : ∀ {n : Nat} {cs : Array Value} {t : TypeId}, n < lo → Blk X n cs t → Blk Y n cs t := fun hn hb => by
    unfold Blk at *
    rw [hh.low _ hn]; exact hb
  refine ⟨⟨L, kp l1 ht.blk, ht.map.keep (hh.low _ l2), ht.ne, ht.ok⟩, C_blk (w := X) (w' := Y) (fun x cs hk => by rw [k58_open hk]; exact k58_mk Y x) (fun ad e => hh.low _ (by have := (hf.s ad e).1; omega)) h.sites,
    kp l3 h.bx1, kp l4 h.bxr, kp l5 h.bxa, kp l7 h.bxo, kp l8 h.bxg, ⟨A', c', kp l6 g1, ints_blk (fun ad e hn => ?_) g2, g3, fun ad e => ⟨(g4 ad e).1, fun ho => ?_⟩, g5, g6, g7, g8⟩, ⟨hh.os.trans h.bel.os, hh.tape.trans h.bel.tape, hh.output.trans h.bel.output, Nat.le_trans h.bel.size hh.size, fun k hk => (hh.low k (by have := hf.Bb; omega)).trans (h.bel.block k hk)⟩, Nat.le_trans h.size hh.size⟩
  · subst e
    obtain ⟨o, ho, hc⟩ := ints_lt g2 hn
    rw [ho, hh.cells _ o ho hc (g4 ad rfl).2]
  · rcases hO _ ho with h1 | h1
    · exact (g4 ad e).2 h1
    · have hne : A' ≠ none := by rw [e]; simp
      by_cases hb0 : (bestOf P s ss lv N (pre.map lstY)).best = []
      · exact hne (g6 hb0)
      · subst e
        obtain ⟨o, ho2, _⟩ := ints_lt g2 (List.length_pos_iff.2 hb0)
        have := (Array.getElem?_eq_some_iff.1 ho2).1
        omega

theorem BestI.next {w : World} {B b m b1 br ba bb bo bg bt lo : Nat} {P lv bu : Int} {A : Option Addr} {c : Nat} {ss : List S58} {s : Nat} {N : Int} (hf : BFix B b m b1 br ba bb bo bg bt lo A) {O : Nat → Prop} {pre pre' : List Yld} {X Y : World} {st : BSt}
    (h : BestI w B b m b1 br ba bb bo bg lo P lv bu A c ss s N O pre X) (hr : Rnd m bb bo bg X Y) (tel : ∃ L, Tel Y b m P lv bu A c ss s L) (hst : bestOf P s ss lv N (pre'.map lstY) = st)
    (bxo : Blk Y bo #[.int .i64 st.w, .int .i64 st.a] 48) (bxg : Blk Y bg #[.int .i64 st.g] 3)
    (bxb : ∃ A' c', Blk Y bb #[.slice A' st.best.length c'] 44 ∧ Kd.C (Kd.int .i64) Y A' st.best.length st.best ∧ st.best.length ≤ c' ∧ (∀ ad, A' = some ad → lo ≤ ad.block ∧ ¬ O ad.block) ∧ (A' = none → st.best = [] ∧ c' = 0) ∧ (st.best = [] → A' = none) ∧ InS ss st.best ∧ st.best.length ≤ 3) :
    BestI w B b m b1 br ba bb bo bg lo P lv bu A c ss s N O pre' Y := by
  obtain ⟨l1, l2, l3, l4, l5, l6, l7, l8, l9⟩ := hf.lt
  obtain ⟨d1, d2, d3, d4, d5, d6⟩ := hf.d
  obtain ⟨n1, n2, n3, n4, n5, n6, n7, n8⟩ := hf.ne
  subst hst
  have hb := hf.b
  have hX := h.size
  refine ⟨tel, C_blk (w := X) (w' := Y) (fun x cs hk => by rw [k58_open hk]; exact k58_mk Y x) (fun ad e => ?_) h.sites, hr.blk h.bx1 n2 (by omega) (by omega) (by omega), hr.blk h.bxr n3 (by omega) (by omega) (by omega), hr.blk h.bxa n4 (by omega) (by omega) (by omega), bxo, bxg, bxb,
    ⟨hr.os.trans h.bel.os, hr.tape.trans h.bel.tape, hr.output.trans h.bel.output, Nat.le_trans h.bel.size hr.size, fun k hk => ?_⟩, Nat.le_trans h.size hr.size⟩
  · have := hf.s ad e
    exact hr.block _ (by omega) this.2 (by omega) (by omega) (by omega)
  · have := hf.B1
    have := hf.Bm
    exact (hr.block k (by omega) (by omega) (by omega) (by omega) (by omega)).trans (h.bel.block k hk)
theorem rnd_post {B b m b1 br ba bb bo bg bt lo : Nat} {A : Option Addr} (hf : BFix B b m b1 br ba bb bo bg bt lo A) {O : Nat → Prop} {X Y : World} (hr : Rnd m bb bo bg X Y) (hO : ∀ k, O k → lo ≤ k ∧ k < X.heap.size) (hX : lo ≤ X.heap.size) :
    KeepsFrom lo X Y ∧ (KQ (fun k => k = b ∨ k = bt ∨ ∃ ad, A = some ad ∧ k = ad.block) X Y ∧ X.heap.size ≤ Y.heap.size) ∧ ∀ k, O k → Y.heap[k]? = X.heap[k]? := by
  obtain ⟨l1, l2, l3, l4, l5, l6, l7, l8, l9⟩ := hf.lt
  obtain ⟨d1, d2, d3, d4, d5, d6⟩ := hf.d
  obtain ⟨n1, n2, n3, n4, n5, n6, n7, n8⟩ := hf.ne
  have hb := hf.b
  refine ⟨⟨hr.size, fun k o hk ho _ => ?_⟩, ⟨fun k hk => ?_, hr.size⟩, fun k hk => ?_⟩
  · have hl := (Array.getElem?_eq_some_iff.1 ho).1
    exact (hr.block k hl (by omega) (by omega) (by omega) (by omega)).trans ho
  · rcases hk with rfl | rfl | ⟨ad, e, rfl⟩
    · exact hr.block _ (by omega) n1 (by omega) (by omega) (by omega)
    · exact hr.block _ (by omega) n8 (by omega) (by omega) (by omega)
    · have := hf.s ad e
      exact hr.block _ (by omega) this.2 (by omega) (by omega) (by omega)
  · have := hO k hk
    exact hr.block k this.2 (by omega) (by omega) (by omega) (by omega)
end Go.Proofs.Yteigcddmbpfahaa.Cn
