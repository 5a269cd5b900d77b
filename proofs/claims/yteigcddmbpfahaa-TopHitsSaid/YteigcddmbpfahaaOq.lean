import Derived.Test.YteigcddmbpfahaaF1
import Derived.Deep.Slices
import Derived.ChangeArms
import Derived.Deep.Grids
namespace Go.Proofs.Yteigcddmbpfahaa.Cn
set_option linter.unusedVariables false
open Go.RowKit Go.Proofs.YteigcddmbpfahaaW.PrintWords Go.Proofs.YteigcddmbpfahaaW.PrintLast Go.ChangeShapes Go.WideShapes
section
variable {H : Type} {enc : TypeId × Value → H} {P : Program} {w : World} {α β : Type}

theorem mapM_get {α β : Type} {f : α → Option β} : ∀ {l : List α} {ys : List β}, l.mapM f = some ys → ys.length = l.length ∧ ∀ (i : Nat) (x : α), l[i]? = some x → ∃ y, ys[i]? = some y ∧ f x = some y
  | [], ys, h => by simp at h; subst h; exact ⟨rfl, fun i x h => by simp at h⟩
  | a :: l, ys, h => by
    rw [List.mapM_cons] at h
    simp only [Option.bind_eq_bind, Option.bind_eq_some_iff, Option.pure_def, Option.some.injEq] at h
    obtain ⟨y, hy, ys', hys, rfl⟩ := h
    obtain ⟨h1, h2⟩ := mapM_get hys
    refine ⟨by simp [h1], fun i x hx => ?_⟩
    cases i with
    | zero => simp at hx; subst hx; exact ⟨y, rfl, hy⟩
    | succ i => exact h2 i x (by simpa using hx)

def Op (enc : TypeId × Value → H) (P : Program) (w : World) (d : Kd α) (t : TypeId) : Prop := ∀ fuel cs x, DataW.trod enc P w 0 (fun _ => true) true fuel t cs = some x → ∃ v, d.K w v cs
def OpF (enc : TypeId × Value → H) (P : Program) (w : World) (d : Kd α) (fs : List Field) (o : Nat) : Prop :=
  ∀ (n : Nat) (cs : List Value), (∀ f ∈ fs, ∃ y, DataW.trod enc P w 0 (fun _ => true) true n f.type ((cs.drop f.offset).take (P.cellsOf f.type)) = some y) → ∃ v, d.K w v ((cs.drop o).take d.sz)

theorem op_int {t : TypeId} {k : IntKind} (ht : P.underlying t = some (.int k)) : Op enc P w (Kd.int k) t := by
  intro fuel cs x h
  obtain ⟨n, rfl, -, -⟩ := DataW.trod_int ht h
  exact ⟨n, rfl⟩
theorem cells_get {a : Addr} {n : Nat} {cs : List Value} (h : w.cells? 0 a n = some cs) : cs.length = n ∧ ∀ (i : Nat) (u : Value), cs[i]? = some u → w.cell? (a.add i) = some u := by
  unfold World.cells? at h
  rw [if_pos (Nat.zero_le _)] at h
  obtain ⟨h1, h2⟩ := mapM_get h
  rw [List.length_range] at h1
  refine ⟨h1, fun i u hu => ?_⟩
  have hlt := (List.getElem?_eq_some_iff.1 hu).1
  obtain ⟨y, hy, hc⟩ := h2 i i (by rw [List.getElem?_range (by omega)])
  rw [hy] at hu
  rw [hc, Option.some.inj hu]
theorem op_row {d : Kd α} {a : Addr} {len : Nat} (hx : ∀ i, i < len → ∃ cs' v, w.cells? 0 (a.add (i * d.sz)) d.sz = some cs' ∧ d.K w v cs') : ∀ n, n ≤ len → ∃ xs : List α, xs.length = n ∧
    ∀ (j : Nat) (p : α), xs[j]? = some p → ∃ c, c.length = d.sz ∧ d.K w p c ∧ ∀ (i : Nat) (u : Value), c[i]? = some u → w.cell? (a.add (j * d.sz + i)) = some u
  | 0, _ => ⟨[], rfl, fun j p h => by simp at h⟩
  | n + 1, hn => by
    obtain ⟨xs, hl, h⟩ := op_row hx n (by omega)
    obtain ⟨cs', v, h1, h2⟩ := hx n (by omega)
    obtain ⟨g1, g2⟩ := cells_get h1
    refine ⟨xs ++ [v], by simp [hl], fun j p hj => ?_⟩
    rcases Nat.lt_or_ge j n with hlt | hge
    · rw [List.getElem?_append_left (by omega)] at hj
      exact h j p hj
    · have hj' := (List.getElem?_eq_some_iff.1 hj).1
      rw [List.length_append, List.length_singleton, hl] at hj'
      obtain rfl : j = n := by omega
      rw [List.getElem?_append_right (by omega), hl, Nat.sub_self] at hj
      obtain rfl : v = p := by simpa using hj
      exact ⟨cs', g1, h2, fun i u hu => by rw [← Go.Deep.add_add]; exact g2 i u hu⟩
theorem op_slice {t e : TypeId} {d : Kd α} (ht : P.underlying t = some (.slice e)) (hd : Op enc P w d e) (hs : P.cellsOf e = d.sz) : Op enc P w (Kd.slice e d) t := by
  intro fuel cs x h
  rcases Go.Deep.open_slice ht h with ⟨rfl, -⟩ | ⟨a, len, cap, m, n, D, Pl, rfl, -, hl, hm, hmm, -, hx⟩
  · exact ⟨[], none, 0, rfl, Nat.le_refl _, rfl, by simp, fun h => absurd h (by simp)⟩
  · have hle : len ≤ m := by rw [hmm]; split <;> omega
    obtain ⟨xs, hxl, hX⟩ := op_row (d := d) (a := a) (len := len) (fun i hi => by
      obtain ⟨cs', h1, h2⟩ := hx i (by omega)
      obtain ⟨v, hv⟩ := hd _ _ _ h2
      rw [hs] at h1
      exact ⟨cs', v, h1, hv⟩) len (Nat.le_refl _)
    subst hxl
    simp only [maxLen] at hm
    exact ⟨xs, some a, cap, rfl, hl, rfl, by omega, fun _ => ⟨a, rfl, hX⟩⟩
theorem opF_one {d : Kd α} {f : Field} {o : Nat} (h : Op enc P w d f.type) (ho : f.offset = o) (hs : P.cellsOf f.type = d.sz) : OpF enc P w d [f] o := by
  intro n cs hf
  obtain ⟨y, hy⟩ := hf f (by simp)
  rw [ho, hs] at hy
  exact h _ _ _ hy
theorem opF_cons {d1 : Kd α} {d2 : Kd β} {f : Field} {fs : List Field} {o o2 : Nat} (h : Op enc P w d1 f.type) (ho : f.offset = o) (hs : P.cellsOf f.type = d1.sz) (ho2 : o2 = o + d1.sz) (h2 : OpF enc P w d2 fs o2) : OpF enc P w (Kd.pair d1 d2) (f :: fs) o := by
  intro n cs hf
  obtain ⟨y, hy⟩ := hf f (by simp)
  rw [ho, hs] at hy
  obtain ⟨v1, k1⟩ := h _ _ _ hy
  obtain ⟨v2, k2⟩ := h2 n cs (fun g hg => hf g (by simp [hg]))
  refine ⟨(v1, v2), _, _, ?_, k1, k2⟩
  show (cs.drop o).take (d1.sz + d2.sz) = _
  rw [List.take_add, List.drop_drop, ho2]
theorem op_iso {d : Kd α} {g : β → α} {t : TypeId} (h : Op enc P w d t) (hg : ∀ y, ∃ x, g x = y) : Op enc P w (Kd.iso d g) t := by
  intro fuel cs x hx
  obtain ⟨v, hv⟩ := h _ _ _ hx
  obtain ⟨u, rfl⟩ := hg v
  exact ⟨u, hv⟩
theorem op_struct {t : TypeId} {fs : Array Field} {d : Kd α} (ht : P.underlying t = some (.struct fs)) (hF : OpF enc P w d fs.toList 0) (hs : P.cellsOf t = d.sz) : Op enc P w d t := by
  intro fuel cs x h
  cases fuel with
  | zero => simp [DataW.trod] at h
  | succ n =>
    unfold DataW.trod at h
    rw [ht] at h
    simp only at h
    split at h
    · rename_i hl
      simp only [Option.map_eq_some_iff] at h
      obtain ⟨ys, hys, -⟩ := h
      obtain ⟨-, h2⟩ := mapM_get hys
      obtain ⟨v, hv⟩ := hF n cs (fun f hf => by
        obtain ⟨i, hi, rfl⟩ := List.mem_iff_getElem.1 hf
        obtain ⟨y, -, hy⟩ := h2 i _ (List.getElem?_eq_getElem hi)
        exact ⟨y, hy⟩)
      rw [List.drop_zero, List.take_of_length_le (by omega)] at hv
      exact ⟨v, hv⟩
    · cases h
end
end Go.Proofs.Yteigcddmbpfahaa.Cn
