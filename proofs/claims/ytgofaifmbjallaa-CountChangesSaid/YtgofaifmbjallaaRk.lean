import Derived.Test.YtgofaifmbjallaaPax13
import Derived.Test.YtgofaifmbjallaaRc
/-! What the reference tells of the rates that are kept. -/
namespace Go.Proofs.Ytgofaifmbjallaa.Pure
open Go.RowKit Go.Proofs.Ytgofaifmbjallaa.Pa Go.Proofs.YtgofaifmbjallaaW.PrintWords Go.Proofs.YtgofaifmbjallaaW.PrintLast Go.Proofs.YtgofaifmbjallaaW.PrintMore
open Go.Proofs.Ytgofaifmbjallaa.Cn

/-- one number more, behind spans of lesser ones -/
def addS (n : Nat) : List S65 → List S65
  | [] => [⟨n, n⟩]
  | [s] => if s.f1 = (n : Int) - 1 then [⟨s.f0, n⟩] else [s, ⟨n, n⟩]
  | s :: t :: L => s :: addS n (t :: L)

theorem ext_end (f : Nat → Bool) (n d h : Nat) (hh : n ≤ h + 1) : ext f n d h = h := by
  cases d with
  | zero => rfl
  | succ d => rw [ext, if_neg (fun c => by omega)]
theorem runsL_end (f : Nat → Bool) (n d low : Nat) (hh : n ≤ low) : runsL f n d low = [] := by
  cases d with
  | zero => rfl
  | succ d => rw [runsL, if_neg (by omega)]
theorem ext_snoc (f : Nat → Bool) (n : Nat) : ∀ d' d h, h < n → n ≤ h + 1 + d → n + 1 ≤ h + 1 + d' →
    ext f (n + 1) d' h = (if ext f n d h + 1 = n ∧ f n = true then n else ext f n d h)
  | 0, d, h, h1, h2, h3 => by omega
  | d' + 1, d, h, h1, h2, h3 => by
    rw [ext]
    by_cases hn : h + 1 = n
    · rw [ext_end f n d h (by omega), hn]
      by_cases hf : f n = true
      · rw [if_pos ⟨by omega, hf⟩, if_pos ⟨rfl, hf⟩, ext_end f (n + 1) d' n (by omega)]
      · rw [if_neg (fun c => hf c.2), if_neg (fun c => hf c.2)]
    · obtain ⟨d, rfl⟩ : ∃ i, d = i + 1 := ⟨d - 1, by omega⟩
      rw [show ext f n (d + 1) h = if h + 1 < n ∧ f (h + 1) = true then ext f n d (h + 1) else h from rfl]
      by_cases hf : f (h + 1) = true
      · rw [if_pos (⟨by omega, hf⟩ : h + 1 < n + 1 ∧ f (h + 1) = true), if_pos (⟨by omega, hf⟩ : h + 1 < n ∧ f (h + 1) = true)]
        exact ext_snoc f n d' d (h + 1) (by omega) (by omega) (by omega)
      · rw [if_neg (fun (c : h + 1 < n + 1 ∧ f (h + 1) = true) => hf c.2), if_neg (fun (c : h + 1 < n ∧ f (h + 1) = true) => hf c.2), if_neg (fun c => by omega)]
theorem addS_cons (n : Nat) (s : S65) (L : List S65) (h : s.f1 ≠ (n : Int) - 1) : addS n (s :: L) = s :: addS n L := by
  cases L with
  | nil => simp only [addS]; rw [if_neg h]
  | cons t L => rw [addS]
theorem runsL_succ (f : Nat → Bool) (n d low : Nat) : runsL f n (d + 1) low = if low < n then (if f low = true then (⟨low, ext f n n low⟩ : S65) :: runsL f n d (ext f n n low + 1) else runsL f n d (low + 1)) else [] := rfl
theorem runsL_snoc (f : Nat → Bool) (n : Nat) : ∀ d2 d low, low ≤ n → n ≤ low + d → n + 1 ≤ low + d2 →
    runsL f (n + 1) d2 low = (if f n = true then addS n (runsL f n d low) else runsL f n d low)
  | 0, d, low, h1, h2, h3 => by omega
  | d2 + 1, d, low, h1, h2, h3 => by
    rw [runsL_succ f (n + 1) d2 low, if_pos (by omega)]
    by_cases hn : low = n
    · subst hn
      rw [runsL_end f low d low (Nat.le_refl _), runsL_end f (low + 1) d2 (low + 1) (Nat.le_refl _), ext_end f (low + 1) (low + 1) low (Nat.le_refl _), runsL_end f (low + 1) d2 (low + 1) (Nat.le_refl _)]
      split
      · rw [addS]
      · rfl
    · obtain ⟨d, rfl⟩ : ∃ i, d = i + 1 := ⟨d - 1, by omega⟩
      rw [runsL_succ f n d low, if_pos (show low < n by omega)]
      by_cases hf : f low = true
      · rw [if_pos hf, if_pos hf, ext_snoc f n (n + 1) n low (by omega) (by omega) (by omega)]
        have he := ext_lt f n n low (by omega)
        have hg := ext_ge f n n low
        generalize ext f n n low = e at *
        by_cases hen : e + 1 = n
        · have hl : (if e + 1 = n ∧ f n = true then n else e) = if f n = true then n else e := by simp [hen]
          rw [hl, runsL_end f n d (e + 1) (by omega)]
          by_cases hfn : f n = true
          · rw [if_pos hfn, if_pos hfn, runsL_end f (n + 1) d2 (n + 1) (by omega), addS, if_pos (by simp only; omega)]
          · rw [if_neg hfn, if_neg hfn, runsL_snoc f n d2 d (e + 1) (by omega) (by omega) (by omega), if_neg hfn, runsL_end f n d (e + 1) (by omega)]
        · rw [if_neg (fun c => hen c.1), runsL_snoc f n d2 d (e + 1) (by omega) (by omega) (by omega)]
          by_cases hfn : f n = true
          · rw [if_pos hfn, if_pos hfn, addS_cons n _ _ (by simp only; omega)]
          · rw [if_neg hfn, if_neg hfn]
      · rw [if_neg hf, if_neg hf]
        exact runsL_snoc f n d2 d (low + 1) (by omega) (by omega) (by omega)

theorem addS_last (n : Nat) : ∀ (L : List S65), L ≠ [] →
    addS n L = (if (rd_T65 L ((L.length : Int) - 1)).f1 = (n : Int) - 1 then L.set (((L.length : Int) - 1).toNat) ⟨(rd_T65 L ((L.length : Int) - 1)).f0, n⟩ else L ++ [⟨n, n⟩])
  | [], h => absurd rfl h
  | [s], _ => by
    rw [addS]
    simp [rd_T65]
  | s :: t :: L, _ => by
    have ih := addS_last n (t :: L) (by simp)
    have e1 : rd_T65 (s :: t :: L) (((s :: t :: L).length : Int) - 1) = rd_T65 (t :: L) (((t :: L).length : Int) - 1) := by
      simp only [rd_T65, List.length_cons]
      rw [show (((L.length + 1 + 1 : Nat) : Int) - 1).toNat = (((L.length + 1 : Nat) : Int) - 1).toNat + 1 by omega, List.getD_cons_succ]
    have e2 : (((s :: t :: L).length : Int) - 1).toNat = (((t :: L).length : Int) - 1).toNat + 1 := by
      simp only [List.length_cons]; omega
    rw [addS, ih, e1, e2, List.set_cons_succ]
    split
    · rfl
    · rfl

theorem runsL_nil {f : Nat → Bool} {n : Nat} (h : ∀ k, k < n → f k = false) : ∀ d low, runsL f n d low = []
  | 0, _ => rfl
  | d + 1, low => by
    rw [runsL]
    split
    · rename_i hl
      rw [if_neg (by simp [h low hl])]
      exact runsL_nil h d (low + 1)
    · rfl
theorem spans_nil {S : Nat → KS} {D : Nat} (h : cnt (D + 1) S = 0) : spansS S D = [] := by
  apply runsL_nil
  intro k hk
  cases ho : (S k).out
  · have := cnt_pos ho (D + 1) hk; omega
  · simp [keptF, ho]

/-- after how many slots each rate is excluded -/
def timesV (D : Nat) (A : Int) (l : List Bool) (n : Nat) : List Int := (List.range n).map (timeV D A l)
theorem times_step (l : List Bool) (D : Nat) (A : Int) (hD : 2 ≤ D) (hD2 : D ≤ 1000) (hA : 2 ≤ A) (hA2 : A ≤ 900000) (hl : l.length ≤ 4000) : ∀ m i k : Nat, i + m = D + 1 → m + l.length + 4 ≤ k →
    overburdenref07_Times.l0 k l D A (timesV D A l i) i = some (timesV D A l (D + 1)) := by
  intro m
  induction m with
  | zero =>
    intro i k hi hk
    obtain ⟨k, rfl⟩ : ∃ j, k = j + 1 := ⟨k - 1, by omega⟩
    rw [overburdenref07_Times.l0, if_neg (by omega)]
    obtain rfl : i = D + 1 := by omega
    rfl
  | succ m ih =>
    intro i k hi hk
    obtain ⟨k, rfl⟩ : ∃ j, k = j + 1 := ⟨k - 1, by omega⟩
    have hlen : (timesV D A l i).length = i := by simp [timesV]
    rw [overburdenref07_Times.l0, if_pos (by omega), ref_excluded l D A i k (by omega) (by omega) (by omega) hA hA2 hl (by omega)]
    simp only [Option.bind_some]
    rw [if_pos (by rw [hlen]; omega), wrap_id (by omega) (by omega)]
    have e : timesV D A l i ++ [timeV D A l i] = timesV D A l (i + 1) := by simp [timesV, List.range_succ]
    rw [e]
    exact ih (i + 1) k (by omega) (by omega)
theorem ref_times (l : List Bool) (D : Nat) (A : Int) (k : Nat) (hD : 2 ≤ D) (hD2 : D ≤ 1000) (hA : 2 ≤ A) (hA2 : A ≤ 900000) (hl : l.length ≤ 4000) (hk : D + l.length + 5 ≤ k) :
    overburdenref07_Times.f k l D A = some (timesV D A l (D + 1)) := by
  have := times_step l D A hD hD2 hA hA2 hl (D + 1) 0 k (by omega) (by omega)
  rw [overburdenref07_Times.f]
  simpa [timesV] using this
theorem rd_times (D : Nat) (A : Int) (l : List Bool) (n i : Nat) (hi : i < n) : rd (timesV D A l n) (i : Int) = timeV D A l i := by
  simp [rd, timesV, List.getElem?_range hi]
theorem keptF_time (D : Nat) (A : Int) (l : List Bool) (k : Nat) : keptF (runS D A l Cn.start) k = decide (timeV D A l k < 0) := by
  rw [keptF, runS_1, timeV_nn.1]
  by_cases h : 0 ≤ timeV D A l k
  · rw [decide_eq_true h, decide_eq_false (by omega)]; rfl
  · rw [decide_eq_false h, decide_eq_true (by omega)]; rfl

theorem kept_step (l : List Bool) (D : Nat) (A : Int) (hD2 : D ≤ 1000) : ∀ m i k : Nat, i + m = D + 1 → m + 1 ≤ k →
    overburdenref07_Kept.l0 k D (runsL (keptF (runS D A l Cn.start)) i i 0) (timesV D A l (D + 1)) i = some (spansS (runS D A l Cn.start) D) := by
  intro m
  induction m with
  | zero =>
    intro i k hi hk
    obtain ⟨k, rfl⟩ : ∃ j, k = j + 1 := ⟨k - 1, by omega⟩
    rw [overburdenref07_Kept.l0, if_neg (by omega)]
    obtain rfl : i = D + 1 := by omega
    rfl
  | succ m ih =>
    intro i k hi hk
    obtain ⟨k, rfl⟩ : ∃ j, k = j + 1 := ⟨k - 1, by omega⟩
    have hlen : (timesV D A l (D + 1)).length = D + 1 := by simp [timesV]
    have ih' := ih (i + 1) k (by omega) (by omega)
    have hle := runsL_len (keptF (runS D A l Cn.start)) i i 0
    rw [runsL_snoc (keptF (runS D A l Cn.start)) i (i + 1) i 0 (by omega) (by omega) (by omega), keptF_time] at ih'
    rw [overburdenref07_Kept.l0, if_pos (by omega), if_pos (by omega), if_pos (by rw [hlen]; omega), rd_times _ _ _ _ _ (by omega), wrap_id (x := (i : Int) + 1) (by omega) (by omega)]
    generalize hR : runsL (keptF (runS D A l Cn.start)) i i 0 = R at *
    by_cases ht : timeV D A l i ≥ 0
    · rw [if_pos ht]
      rw [decide_eq_false (by omega), if_neg (by simp)] at ih'
      exact ih'
    · rw [if_neg ht]
      rw [decide_eq_true (by omega), if_pos rfl] at ih'
      rw [wrap_id (x := (R.length : Int) - 1) (by omega) (by omega), wrap_id (x := (i : Int) - 1) (by omega) (by omega)]
      by_cases hne : R = []
      · subst hne
        rw [if_neg (by simp), if_pos (by simp)]
        rw [addS] at ih'
        exact ih'
      · have hpos : 0 < R.length := List.length_pos_iff.2 hne
        rw [if_pos (by omega), if_pos (by omega), if_pos (by omega)]
        rw [addS_last i R hne] at ih'
        split
        · rename_i hs
          rw [if_pos hs] at ih'
          exact ih'
        · rename_i hs
          rw [if_neg hs] at ih'
          rw [if_pos (by omega)]
          exact ih'
theorem ref_kept (l : List Bool) (D : Nat) (A : Int) (k : Nat) (hD : 2 ≤ D) (hD2 : D ≤ 1000) (hA : 2 ≤ A) (hA2 : A ≤ 900000) (hl : l.length ≤ 4000) (hk : D + l.length + 5 ≤ k) :
    overburdenref07_Kept.f k l D A = some (spansS (runS D A l Cn.start) D) := by
  have := kept_step l D A hD2 (D + 1) 0 k (by omega) (by omega)
  rw [overburdenref07_Kept.f, ref_times l D A k hD hD2 hA hA2 hl hk]
  simpa [runsL] using this
/-- the set, as the reference tells it -/
theorem ref_set (l : List Bool) (D : Nat) (A : Int) (k : Nat) (hD : 2 ≤ D) (hD2 : D ≤ 1000) (hA : 2 ≤ A) (hA2 : A ≤ 900000) (hl : l.length ≤ 4000) (hk : D + l.length + 5 ≤ k) :
    overburdenref07_Set.f k l D A = some ((setS (runS D A l Cn.start) D).1, (setS (runS D A l Cn.start) D).2.1, decide (cnt (D + 1) (runS D A l Cn.start) ≠ 0)) := by
  rw [overburdenref07_Set.f, ref_kept l D A k hD hD2 hA hA2 hl hk]
  simp only [Option.bind_some]
  by_cases hc : cnt (D + 1) (runS D A l Cn.start) = 0
  · rw [spans_nil hc, if_pos (by simp), setS, if_pos hc]; simp [hc]
  · have hn := spans_ne hc
    have hle := spans_le (runS D A l Cn.start) hD2
    rw [if_neg (by omega), if_pos (by omega), wrap_id (by omega) (by omega), if_pos (by omega), if_pos (by omega), setS, if_neg hc]
    simp [hc, hullL]
end Go.Proofs.Ytgofaifmbjallaa.Pure
