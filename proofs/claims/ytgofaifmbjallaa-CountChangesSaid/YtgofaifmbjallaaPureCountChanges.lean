import Derived.Test.YtgofaifmbjallaaPax16
import Derived.Test.YtgofaifmbjallaaRk
import Derived.Test.YtgofaifmbjallaaLw
import Derived.Test.YtgofaifmbjallaaKn
/-! The pure law CountChanges. -/
namespace Go.Proofs.Ytgofaifmbjallaa.Pure
open Go.RowKit Go.Proofs.Ytgofaifmbjallaa.Pa Go.Proofs.YtgofaifmbjallaaW.PrintWords Go.Proofs.YtgofaifmbjallaaW.PrintLast Go.Proofs.YtgofaifmbjallaaW.PrintMore
open Go.Proofs.Ytgofaifmbjallaa.Cn

theorem r1_app (D A : Int) (k : Nat) : ∀ (p q : List Bool) (s : KS), run1 D A k (p ++ q) s = run1 D A k q (run1 D A k p s)
  | [], _, _ => rfl
  | x :: p, q, s => by rw [List.cons_append, run1, run1]; exact r1_app D A k p q _
theorem r1_stays (D A : Int) (k : Nat) : ∀ (q : List Bool) (s : KS), s.out = true → run1 D A k q s = s
  | [], _, _ => rfl
  | x :: q, s, h => by rw [run1, worth_out k x h]; exact r1_stays D A k q s h
theorem r1_n (D A : Int) (k : Nat) : ∀ (p : List Bool) (s : KS), s.out = false → (run1 D A k p s).out = false → (run1 D A k p s).n = s.n + p.length
  | [], s, _, _ => by simp [run1]
  | x :: p, s, h, h2 => by
    have hs : KS.step D A x k s = ⟨s.n + 1, s.h + b2i x, moveV x D s.n s.h k s.c, decide (A * 1048576 ≤ moveV x D s.n s.h k s.c), if A * 1048576 ≤ moveV x D s.n s.h k s.c then s.n + 1 else s.at_⟩ := by
      unfold KS.step; rw [if_neg (by simp [h])]
    rw [run1] at h2 ⊢
    have ho : (KS.step D A x k s).out = false := by
      cases ho : (KS.step D A x k s).out
      · rfl
      · rw [r1_stays D A k p _ ho, ho] at h2; cases h2
    rw [r1_n D A k p _ ho h2, hs]
    simp only [List.length_cons]
    omega
/-- a rate is excluded after so many slots just when its time has come -/
theorem timeV_prefix {D A : Int} {k : Nat} (p q : List Bool) : (run1 D A k p (Cn.start k)).out = decide (0 ≤ timeV D A (p ++ q) k ∧ timeV D A (p ++ q) k ≤ p.length) := by
  have hp := timeV_nn (D := D) (A := A) (l := p) (k := k)
  cases ho : (run1 D A k p (Cn.start k)).out
  · -- not yet: later, if at all
    have hn := r1_n D A k p (Cn.start k) rfl ho
    have h := run_excl (D := D) (A := A) (k := k) q (run1 D A k p (Cn.start k)) ho (by rw [hn]; simp [Cn.start])
    rw [← r1_app] at h
    symm
    rw [decide_eq_false_iff_not]
    intro hc
    unfold timeV at hc
    by_cases h2 : (run1 D A k (p ++ q) (Cn.start k)).out = true
    · rw [if_pos h2, h.2 h2] at hc
      have hg := exL_ge (A * 1048576) (cls D k q (run1 D A k p (Cn.start k)).n (run1 D A k p (Cn.start k)).h (run1 D A k p (Cn.start k)).c) ((run1 D A k p (Cn.start k)).n + 1) (by rw [hn]; simp [Cn.start]; omega)
      rw [hn] at hg hc
      simp only [Cn.start, Int.zero_add] at hg hc
      omega
    · rw [if_neg h2] at hc; omega
  · have e : timeV D A (p ++ q) k = timeV D A p k := by
      unfold timeV
      rw [r1_app, r1_stays D A k q _ ho]
    rw [ho] at hp
    have := of_decide_eq_true hp.1.symm
    rw [e]
    exact (decide_eq_true (by omega)).symm

/-- after how many slots all rates of a list are excluded; -1, if some is not -/
def lastL : List Int → Int → Int
  | [], a => a
  | t :: L, a => if t < 0 then -1 else lastL L (mx a t)
theorem mx_max (a b : Int) : mx a b = max a b := by unfold mx; omega
theorem lastL_spec : ∀ (L : List Int) (a : Int), 0 ≤ a → (lastL L a = -1 ∧ ∃ t ∈ L, t < 0) ∨ (0 ≤ lastL L a ∧ (∀ t ∈ L, 0 ≤ t) ∧ ∀ b, lastL L a ≤ b ↔ (a ≤ b ∧ ∀ t ∈ L, t ≤ b))
  | [], a, h => Or.inr ⟨h, fun t ht => by simp at ht, fun b => by simp [lastL]⟩
  | t :: L, a, h => by
    rw [lastL]
    by_cases ht : t < 0
    · rw [if_pos ht]; exact Or.inl ⟨rfl, t, List.mem_cons_self .., ht⟩
    · rw [if_neg ht, mx_max]
      rcases lastL_spec L (max a t) (by omega) with ⟨h1, u, hu, h2⟩ | ⟨h1, h2, h3⟩
      · exact Or.inl ⟨h1, u, List.mem_cons_of_mem _ hu, h2⟩
      · refine Or.inr ⟨h1, fun u hu => ?_, fun b => ?_⟩
        · rcases List.mem_cons.1 hu with rfl | hu
          · omega
          · exact h2 u hu
        · rw [h3 b]
          constructor
          · rintro ⟨g1, g2⟩
            refine ⟨by omega, fun u hu => ?_⟩
            rcases List.mem_cons.1 hu with rfl | hu
            · omega
            · exact g2 u hu
          · rintro ⟨g1, g2⟩
            have := g2 t (List.mem_cons_self ..)
            exact ⟨by omega, fun u hu => g2 u (List.mem_cons_of_mem _ hu)⟩
theorem last_step (L : List Int) (hL : L.length ≤ 4000) : ∀ m i k : Nat, ∀ a : Int, i + m = L.length → m + 1 ≤ k → overburdenref07_last.l0 k L ((L.length : Int) - 1) a i = some (lastL (L.drop i) a) := by
  intro m
  induction m with
  | zero =>
    intro i k a hi hk
    obtain ⟨k, rfl⟩ : ∃ j, k = j + 1 := ⟨k - 1, by omega⟩
    rw [overburdenref07_last.l0, if_neg (by omega), List.drop_of_length_le (by omega), lastL]
  | succ m ih =>
    intro i k a hi hk
    obtain ⟨k, rfl⟩ : ∃ j, k = j + 1 := ⟨k - 1, by omega⟩
    have hlt : i < L.length := by omega
    have hr : rd L (i : Int) = L[i] := by simp [rd, hlt]
    rw [overburdenref07_last.l0, if_pos (by omega), if_pos (by omega), if_pos (by omega), hr, List.drop_eq_getElem_cons hlt, lastL, wrap_id (by omega) (by omega)]
    split
    · rfl
    · exact ih (i + 1) k _ (by omega) (by omega)

/-- when all rates are excluded, of bets on some slots -/
def lastT (D : Nat) (A : Int) (q : List Bool) : Int := lastL (timesV D A q (D + 1)) 0
theorem ref_last (D : Nat) (A : Int) (q : List Bool) (k : Nat) (hD : D ≤ 1000) (hk : D + 2 ≤ k) : overburdenref07_last.f k (timesV D A q (D + 1)) 0 D = some (lastT D A q) := by
  have hl : (timesV D A q (D + 1)).length = D + 1 := by simp [timesV]
  have h := last_step (timesV D A q (D + 1)) (by omega) (D + 1) 0 k 0 (by omega) (by omega)
  rw [hl, show (((D + 1 : Nat) : Int) - 1) = (D : Int) by omega] at h
  rw [overburdenref07_last.f]
  exact h
theorem times_mem {D : Nat} {A : Int} {q : List Bool} {t : Int} : t ∈ timesV D A q (D + 1) ↔ ∃ k, k < D + 1 ∧ timeV D A q k = t := by simp [timesV]
theorem lastT_bd (D : Nat) (A : Int) (q : List Bool) : lastT D A q = -1 ∨ (1 ≤ lastT D A q ∧ lastT D A q ≤ q.length) := by
  rcases lastL_spec (timesV D A q (D + 1)) 0 (by omega) with ⟨h1, _⟩ | ⟨h1, h2, h3⟩
  · exact Or.inl h1
  · right
    have hall : ∀ t ∈ timesV D A q (D + 1), 1 ≤ t ∧ t ≤ q.length := by
      intro t ht
      have h0 := h2 t ht
      obtain ⟨k, hk, rfl⟩ := times_mem.1 ht
      have := (timeV_nn (D := D) (A := A) (l := q) (k := k)).2
      omega
    have h4 := (h3 q.length).2 ⟨by omega, fun t ht => (hall t ht).2⟩
    refine ⟨?_, h4⟩
    have h5 := ((h3 (lastT D A q)).1 (Int.le_refl _)).2 (timeV D A q 0) (times_mem.2 ⟨0, by omega, rfl⟩)
    have := (hall _ (times_mem.2 ⟨0, by omega, rfl⟩)).1
    omega
theorem cnt_all {S : Nat → KS} : ∀ n, (∀ k, k < n → (S k).out = true) → cnt n S = 0
  | 0, _ => rfl
  | n + 1, h => by rw [cnt, cnt_all n (fun k hk => h k (by omega)), h n (by omega)]; rfl
/-- no rate is kept just when the last one's time has come -/
theorem cnt_last (D : Nat) (A : Int) (p q : List Bool) : cnt (D + 1) (runS D A p Cn.start) = 0 ↔ (0 ≤ lastT D A (p ++ q) ∧ lastT D A (p ++ q) ≤ p.length) := by
  have hout : ∀ k, (runS D A p Cn.start k).out = decide (0 ≤ timeV D A (p ++ q) k ∧ timeV D A (p ++ q) k ≤ p.length) := fun k => by rw [runS_1]; exact timeV_prefix p q
  have hs := lastL_spec (timesV D A (p ++ q) (D + 1)) 0 (by omega)
  constructor
  · intro hc
    have hall : ∀ k, k < D + 1 → 0 ≤ timeV D A (p ++ q) k ∧ timeV D A (p ++ q) k ≤ p.length := by
      intro k hk
      cases ho : (runS D A p Cn.start k).out
      · have := cnt_pos ho (D + 1) hk; omega
      · rw [hout] at ho; exact of_decide_eq_true ho
    rcases hs with ⟨_, t, ht, h2⟩ | ⟨h1, h2, h3⟩
    · obtain ⟨k, hk, rfl⟩ := times_mem.1 ht
      have := (hall k hk).1; omega
    · refine ⟨h1, (h3 p.length).2 ⟨by omega, fun t ht => ?_⟩⟩
      obtain ⟨k, hk, rfl⟩ := times_mem.1 ht
      exact (hall k hk).2
  · rintro ⟨h1, h2⟩
    apply cnt_all
    intro k hk
    rw [hout]
    rcases hs with ⟨h3, _⟩ | ⟨_, h4, h5⟩
    · unfold lastT at h1; omega
    · have hm := (times_mem (D := D) (A := A) (q := p ++ q)).2 ⟨k, hk, rfl⟩
      exact decide_eq_true ⟨h4 _ hm, ((h5 p.length).1 h2).2 _ hm⟩

/-- where a watch begins -/
def bg (j : Nat) : Nat := if j = 0 then 0 else 2 ^ (j - 1)
theorem bg_nW : ∀ i, i < 42 → (pow2b i = true → bg (nW i) = i) ∧ ∀ j, j < 9 → (bg j < i ↔ j < nW i) := by decide +kernel
theorem bg_big {j : Nat} (h : 7 ≤ j) : 64 ≤ bg j := by
  unfold bg
  rw [if_neg (by omega)]
  exact Nat.pow_le_pow_right (n := 2) (by omega) (show 6 ≤ j - 1 by omega)
theorem nW_small : ∀ i, i < 42 → nW i ≤ 7 := by decide +kernel
theorem bg_lt {i : Nat} (hi : i < 42) (j : Nat) : bg j < i ↔ j < nW i := by
  rcases Nat.lt_or_ge j 9 with h | h
  · exact (bg_nW i hi).2 j h
  · have h1 := bg_big (j := j) (by omega)
    have h2 := nW_small i hi
    constructor <;> intro <;> omega

/-- when a watch announces -/
def tW (D : Nat) (lv : Int) (l : List Bool) (j : Nat) : Int := lastT D (wA lv j) (l.drop (bg j))
def stW (D : Nat) (lv : Int) (l : List Bool) (i j : Nat) : Nat → KS := runS D (wA lv j) ((l.take i).drop (bg j)) Cn.start
theorem done_iff (D : Nat) (lv : Int) (l : List Bool) {i j : Nat} (hj : bg j ≤ i) (hi : i ≤ l.length) : cnt (D + 1) (stW D lv l i j) = 0 ↔ (0 ≤ tW D lv l j ∧ (bg j : Int) + tW D lv l j ≤ i) := by
  have e : (l.take i).drop (bg j) ++ l.drop i = l.drop (bg j) := by
    rw [← List.drop_append_of_le_length (by simp; omega), List.take_append_drop]
  have h := cnt_last D (wA lv j) ((l.take i).drop (bg j)) (l.drop i)
  rw [e] at h
  have hl : (((l.take i).drop (bg j)).length : Int) = i - bg j := by simp; omega
  rw [hl] at h
  unfold stW tW
  rw [h]
  constructor <;> intro <;> omega
theorem stW_step (D : Nat) (lv : Int) (l : List Bool) {i j : Nat} (hj : bg j ≤ i) (hi : i < l.length) : stepAll D (wA lv j) l[i] (stW D lv l i j) = stW D lv l (i + 1) j := by
  unfold stW
  rw [← runS_snoc, List.take_succ_eq_append_getElem hi, List.drop_append_of_le_length (by simp; omega)]
/-- the watches after so many slots -/
def wsL (D : Nat) (lv : Int) (l : List Bool) (i n : Nat) : List (Nat → KS) := (List.range n).map (stW D lv l i)
theorem wsL_new (D : Nat) (lv : Int) (l : List Bool) (i : Nat) (hi : i < 42) (hl : i ≤ l.length) : newW i (wsL D lv l i (nW i)) = wsL D lv l i (nW (i + 1)) := by
  unfold newW wsL
  rw [nW]
  by_cases hp : pow2b i = true
  · rw [if_pos hp, if_pos hp, List.range_succ, List.map_append]
    have e : stW D lv l i (nW i) = Cn.start := by
      unfold stW
      rw [(bg_nW i hi).1 hp, List.drop_of_length_le (by simp; omega)]; rfl
    simp [e]
  · rw [if_neg hp, if_neg hp]; rfl
theorem stepW_spec (D : Nat) (lv : Int) (x : Bool) : ∀ (r : List (Nat → KS)) (j0 : Nat),
    (∃ q, ∃ h : q < r.length, (stepW D lv x r j0).1 = some (j0 + q) ∧ cnt (D + 1) (stepAll D (wA lv (j0 + q)) x r[q]) = 0 ∧ ∀ q' (h' : q' < q), cnt (D + 1) (stepAll D (wA lv (j0 + q')) x (r[q']'(by omega))) ≠ 0) ∨
    ((stepW D lv x r j0).1 = none ∧ (∀ q (h : q < r.length), cnt (D + 1) (stepAll D (wA lv (j0 + q)) x r[q]) ≠ 0) ∧ (stepW D lv x r j0).2.length = r.length ∧ ∀ q (h : q < r.length) (h2 : q < (stepW D lv x r j0).2.length), (stepW D lv x r j0).2[q] = stepAll D (wA lv (j0 + q)) x r[q])
  | [], j0 => Or.inr ⟨rfl, fun q h => absurd h (by simp), rfl, fun q h => absurd h (by simp)⟩
  | S :: r, j0 => by
    by_cases hc : cnt (D + 1) (stepAll D (wA lv j0) x S) = 0
    · left
      exact ⟨0, by simp, by rw [stepW, if_pos hc]; rfl, by simpa using hc, fun q' h' => by omega⟩
    · have e : stepW D lv x (S :: r) j0 = ((stepW D lv x r (j0 + 1)).1, stepAll D (wA lv j0) x S :: (stepW D lv x r (j0 + 1)).2) := by rw [stepW, if_neg hc]
      rw [e]
      rcases stepW_spec D lv x r (j0 + 1) with ⟨q, h, h1, h2, h3⟩ | ⟨h1, h2, h3, h4⟩
      · left
        refine ⟨q + 1, by simpa using h, by rw [h1]; congr 1; omega, ?_, fun q' h' => ?_⟩
        · rw [show j0 + (q + 1) = j0 + 1 + q by omega]; simpa using h2
        · cases q' with
          | zero => simpa using hc
          | succ q' => rw [show j0 + (q' + 1) = j0 + 1 + q' by omega]; simpa using h3 q' (by omega)
      · right
        refine ⟨h1, fun q h => ?_, by simp [h3], fun q h h5 => ?_⟩
        · cases q with
          | zero => simpa using hc
          | succ q => rw [show j0 + (q + 1) = j0 + 1 + q by omega]; simpa using h2 q (by simpa using h)
        · cases q with
          | zero => simp
          | succ q => rw [show j0 + (q + 1) = j0 + 1 + q by omega]; simpa using h4 q (by simpa using h) (by simpa using h5)

/-- what Change tells -/
theorem chL_spec (D : Nat) (lv : Int) (l : List Bool) (hl : l.length ≤ 40) : ∀ m i : Nat, i + m = l.length → (∀ j, j < nW i → ¬ (0 ≤ tW D lv l j ∧ (bg j : Int) + tW D lv l j ≤ i)) →
    (∃ i1 j : Nat, i1 < l.length ∧ chL D lv (l.drop i) i (wsL D lv l i (nW i)) = ((i1 : Int) + 1, (j : Int), 0) ∧ 0 ≤ tW D lv l j ∧ (bg j : Int) + tW D lv l j ≤ i1 + 1 ∧
      (∀ j', j' < j → ¬ (0 ≤ tW D lv l j' ∧ (bg j' : Int) + tW D lv l j' ≤ i1 + 1)) ∧ (∀ j', j' < nW (i1 + 1) → ¬ (0 ≤ tW D lv l j' ∧ (bg j' : Int) + tW D lv l j' ≤ i1))) ∨
    (chL D lv (l.drop i) i (wsL D lv l i (nW i)) = (0, 0, 5) ∧ ∀ j, j < nW l.length → ¬ (0 ≤ tW D lv l j ∧ (bg j : Int) + tW D lv l j ≤ l.length)) := by
  intro m
  induction m with
  | zero =>
    intro i hi hn
    obtain rfl : i = l.length := by omega
    right
    rw [List.drop_length, chL]
    exact ⟨rfl, hn⟩
  | succ m ih =>
    intro i hi hn
    have hlt : i < l.length := by omega
    have hlen : (wsL D lv l i (nW (i + 1))).length = nW (i + 1) := by simp [wsL]
    have hget : ∀ q (h : q < (wsL D lv l i (nW (i + 1))).length), (wsL D lv l i (nW (i + 1)))[q] = stW D lv l i q := fun q h => by simp [wsL]
    have hbg : ∀ q, q < nW (i + 1) → bg q ≤ i := fun q hq => by have := (bg_lt (i := i + 1) (by omega) q).2 hq; omega
    -- none was announced before, those that begin now too
    have hn' : ∀ j, j < nW (i + 1) → ¬ (0 ≤ tW D lv l j ∧ (bg j : Int) + tW D lv l j ≤ i) := by
      intro j hj hd
      by_cases h : j < nW i
      · exact hn j h hd
      · have h1 : ¬ bg j < i := fun h2 => h ((bg_lt (by omega) j).1 h2)
        have h2 := hbg j hj
        rcases lastT_bd D (wA lv j) (l.drop (bg j)) with h3 | h3
        · unfold tW at hd; omega
        · unfold tW at hd; omega
    have hdone : ∀ q (h : q < (wsL D lv l i (nW (i + 1))).length), cnt (D + 1) (stepAll D (wA lv (0 + q)) l[i] (wsL D lv l i (nW (i + 1)))[q]) = 0 ↔ (0 ≤ tW D lv l q ∧ (bg q : Int) + tW D lv l q ≤ i + 1) := by
      intro q h
      rw [hget q h, Nat.zero_add, stW_step D lv l (hbg q (by omega)) hlt, done_iff D lv l (by have := hbg q (by omega); omega) (by omega)]
      simp
    rw [List.drop_eq_getElem_cons hlt, chL, wsL_new D lv l i (by omega) (by omega)]
    rcases stepW_spec D lv l[i] (wsL D lv l i (nW (i + 1))) 0 with ⟨q, h, h1, h2, h3⟩ | ⟨h1, h2, h3, h4⟩
    · left
      rw [h1]
      have hd := (hdone q h).1 h2
      refine ⟨i, q, hlt, by simp, hd.1, hd.2, fun j' hj' => ?_, hn'⟩
      intro hc
      exact h3 j' hj' ((hdone j' (by omega)).2 hc)
    · rw [h1]
      have e : (stepW D lv l[i] (wsL D lv l i (nW (i + 1))) 0).2 = wsL D lv l (i + 1) (nW (i + 1)) := by
        apply List.ext_getElem
        · rw [h3]; simp [wsL]
        · intro q g1 g2
          have g3 : q < (wsL D lv l i (nW (i + 1))).length := by rw [h3] at g1; exact g1
          rw [h4 q g3 g1, hget q g3, Nat.zero_add, stW_step D lv l (hbg q (by omega)) hlt]
          simp [wsL]
      simp only
      rw [e]
      refine ih (i + 1) (by omega) (fun j hj hc => ?_)
      exact h2 j (by omega) ((hdone j (by omega)).2 (by simpa using hc))

theorem begins_20 : ∀ j : Nat, j < 12 → overburdenref07_begins.f 20 (j : Int) = some ((bg j : Nat) : Int) := by decide +kernel
theorem ref_begins (j k : Nat) (hj : j < 12) (hk : 20 ≤ k) : overburdenref07_begins.f k (j : Int) = some ((bg j : Nat) : Int) :=
  leO_up (f := fun k => overburdenref07_begins.f k (j : Int)) (fun k => overburdenref07_begins.mono _ k) (begins_20 j hj) k hk
theorem bg_mono {i j : Nat} (h : i ≤ j) : bg i ≤ bg j := by
  unfold bg
  split
  · omega
  · rw [if_neg (by omega)]
    exact Nat.pow_le_pow_right (by omega) (by omega)

/-- the best watch of those below some number -/
def BestOf (D : Nat) (lv : Int) (l : List Bool) (P : Nat → Prop) (best by_ : Int) : Prop :=
  (best = -1 ∧ by_ = 0 ∧ ∀ j, P j → ¬ 0 ≤ tW D lv l j) ∨
  (∃ b : Nat, P b ∧ by_ = b ∧ best = (bg b : Int) + tW D lv l b ∧ 0 ≤ tW D lv l b ∧ (∀ j, P j → 0 ≤ tW D lv l j → best ≤ (bg j : Int) + tW D lv l j) ∧ ∀ j, j < b → 0 ≤ tW D lv l j → best < (bg j : Int) + tW D lv l j)

theorem change_step (D : Nat) (lv : Int) (l : List Bool) (hl : l.length ≤ 40) (hD : 2 ≤ D) (hD2 : D ≤ 40) (hA : 2 ≤ lv) (hA2 : lv ≤ 100) : ∀ m j K : Nat, ∀ best by_ : Int, j + m = 8 → m + 200 ≤ K → BestOf D lv l (fun j' => j' < j) best by_ →
    ∃ b y, overburdenref07_Change.l0 K l D lv best by_ (2 ^ (j + 1)) j = some (b, y) ∧ BestOf D lv l (fun j' => bg j' ≤ l.length) b y := by
  intro m
  induction m with
  | zero =>
    intro j K best by_ hj hK hb
    obtain ⟨K, rfl⟩ : ∃ i, K = i + 1 := ⟨K - 1, by omega⟩
    obtain rfl : j = 8 := by omega
    have h8 : bg 8 = 128 := rfl
    refine ⟨best, by_, ?_, ?_⟩
    · rw [overburdenref07_Change.l0, ref_begins 8 K (by omega) (by omega)]
      simp only [Option.bind_some]
      rw [if_neg (by omega)]
    · have hP : ∀ j', bg j' ≤ l.length → j' < 8 := fun j' h => by
        rcases Nat.lt_or_ge j' 8 with h1 | h1
        · exact h1
        · have := bg_mono h1; omega
      rcases hb with ⟨h1, h2, h3⟩ | ⟨b, h1, h2, h3, h4, h5, h6⟩
      · exact Or.inl ⟨h1, h2, fun j' h => h3 j' (hP j' h)⟩
      · refine Or.inr ⟨b, ?_, h2, h3, h4, fun j' h => h5 j' (hP j' h), h6⟩
        rcases lastT_bd D (wA lv b) (l.drop (bg b)) with h7 | h7
        · unfold tW at h4; omega
        · simp only [List.length_drop] at h7; omega
  | succ m ih =>
    intro j K best by_ hj hK hb
    obtain ⟨K, rfl⟩ : ∃ i, K = i + 1 := ⟨K - 1, by omega⟩
    by_cases hin : bg j ≤ l.length
    · have e1 : (2 : Nat) ^ (j + 1) ≤ 2 ^ 8 := Nat.pow_le_pow_right (by omega) (by omega)
      have e0 : 1 ≤ (2 : Nat) ^ (j + 1) := Nat.one_le_two_pow
      have e2 : (2 : Int) ^ (j + 1) = ((2 ^ (j + 1) : Nat) : Int) := by simp
      have e3 : lv * ((2 ^ (j + 1) : Nat) : Int) ≤ 100 * 256 := Int.mul_le_mul hA2 (by omega) (by omega) (by omega)
      have e4 : 2 * 1 ≤ lv * ((2 ^ (j + 1) : Nat) : Int) := Int.mul_le_mul hA (by omega) (by omega) (by omega)
      have eA : wA lv j = lv * ((2 ^ (j + 1) : Nat) : Int) := by unfold wA; rw [e2]
      have e5 : (2 : Int) * ((2 ^ (j + 1) : Nat) : Int) = 2 ^ (j + 1 + 1) := by rw [← e2, Int.pow_succ _ (j + 1), Int.mul_comm]
      have hw : wrap64 (lv * 2 ^ (j + 1)) = wA lv j := by rw [e2, wrap_id (by omega) (by omega), eA]
      have hw2 : wrap64 (2 * 2 ^ (j + 1)) = 2 ^ (j + 1 + 1) := by rw [e2, wrap_id (by omega) (by omega), e5]
      have ht := lastT_bd D (wA lv j) (l.drop (bg j))
      have hT : lastT D (wA lv j) (l.drop (bg j)) = tW D lv l j := rfl
      rw [hT] at ht
      simp only [List.length_drop] at ht
      rw [overburdenref07_Change.l0, ref_begins j K (by omega) (by omega)]
      simp only [Option.bind_some]
      rw [if_pos (by omega), if_pos (by omega), if_pos (by omega), hw, hw2, Int.toNat_natCast, ref_times _ D (wA lv j) K hD (by omega) (by omega) (by omega) (by simp; omega) (by simp; omega)]
      simp only [Option.bind_some]
      rw [ref_last D (wA lv j) _ K (by omega) (by omega), hT, wrap_id (x := (j : Int) + 1) (by omega) (by omega)]
      simp only [Option.bind_some]
      have hcase : ∀ j', j' < j + 1 → j' < j ∨ j' = j := fun j' h => by omega
      by_cases h0 : tW D lv l j ≥ 0
      · rw [if_pos h0, wrap_id (x := (bg j : Int) + tW D lv l j) (by omega) (by omega)]
        have hnew : BestOf D lv l (fun j' => j' < j) best by_ → (best < 0 ∨ (bg j : Int) + tW D lv l j < best) → BestOf D lv l (fun j' => j' < j + 1) ((bg j : Int) + tW D lv l j) j := by
          intro hb hlt
          right
          refine ⟨j, by omega, rfl, rfl, h0, fun j' hj' ht' => ?_, fun j' hj' ht' => ?_⟩
          · rcases hcase j' hj' with h | rfl
            · rcases hb with ⟨_, _, h3⟩ | ⟨b, _, _, h3, h4, h5, _⟩
              · exact absurd ht' (h3 j' h)
              · have := h5 j' h ht'; omega
            · exact Int.le_refl _
          · rcases hb with ⟨_, _, h3⟩ | ⟨b, _, _, h3, h4, h5, _⟩
            · exact absurd ht' (h3 j' hj')
            · have := h5 j' hj' ht'; omega
        by_cases hneg : best < 0
        · rw [if_pos hneg]
          exact ih (j + 1) K _ _ (by omega) (by omega) (hnew hb (Or.inl hneg))
        · rw [if_neg hneg]
          by_cases hlt : (bg j : Int) + tW D lv l j < best
          · rw [if_pos hlt]
            exact ih (j + 1) K _ _ (by omega) (by omega) (hnew hb (Or.inr hlt))
          · rw [if_neg hlt]
            refine ih (j + 1) K _ _ (by omega) (by omega) ?_
            rcases hb with ⟨h1, _, _⟩ | ⟨b, h1, h2, h3, h4, h5, h6⟩
            · omega
            · refine Or.inr ⟨b, by omega, h2, h3, h4, fun j' hj' ht' => ?_, h6⟩
              rcases hcase j' hj' with h | rfl
              · exact h5 j' h ht'
              · omega
      · rw [if_neg h0]
        refine ih (j + 1) K _ _ (by omega) (by omega) ?_
        rcases hb with ⟨h1, h2, h3⟩ | ⟨b, h1, h2, h3, h4, h5, h6⟩
        · refine Or.inl ⟨h1, h2, fun j' hj' => ?_⟩
          rcases hcase j' hj' with h | rfl
          · exact h3 j' h
          · exact h0
        · refine Or.inr ⟨b, by omega, h2, h3, h4, fun j' hj' ht' => ?_, h6⟩
          rcases hcase j' hj' with h | rfl
          · exact h5 j' h ht'
          · exact absurd ht' h0
    · refine ⟨best, by_, ?_, ?_⟩
      · rw [overburdenref07_Change.l0, ref_begins j K (by omega) (by omega)]
        simp only [Option.bind_some]
        rw [if_neg (by omega)]
      · have hP : ∀ j', bg j' ≤ l.length → j' < j := fun j' h => by
          rcases Nat.lt_or_ge j' j with h1 | h1
          · exact h1
          · have := bg_mono h1; omega
        rcases hb with ⟨h1, h2, h3⟩ | ⟨b, h1, h2, h3, h4, h5, h6⟩
        · exact Or.inl ⟨h1, h2, fun j' h => h3 j' (hP j' h)⟩
        · refine Or.inr ⟨b, ?_, h2, h3, h4, fun j' h => h5 j' (hP j' h), h6⟩
          rcases lastT_bd D (wA lv b) (l.drop (bg b)) with h7 | h7
          · unfold tW at h4; omega
          · simp only [List.length_drop] at h7; omega

theorem ref_change (D : Nat) (lv : Int) (l : List Bool) (K : Nat) (hl : l.length ≤ 40) (hD : 2 ≤ D) (hD2 : D ≤ 40) (hA : 2 ≤ lv) (hA2 : lv ≤ 100) (hK : 300 ≤ K) :
    ∃ b y, overburdenref07_Change.f K l D lv = some (b, y) ∧ ((b < 0 ∧ chL D lv l 0 [] = (0, 0, 5)) ∨ (¬ b < 0 ∧ chL D lv l 0 [] = (b, y, 0))) := by
  obtain ⟨b, y, h1, h2⟩ := change_step D lv l hl hD hD2 hA hA2 8 0 K (-1) 0 (by omega) (by omega) (Or.inl ⟨rfl, rfl, fun j hj => absurd hj (by omega)⟩)
  refine ⟨b, y, by rw [overburdenref07_Change.f]; exact h1, ?_⟩
  have hs := chL_spec D lv l hl l.length 0 (by omega) (fun j hj => absurd hj (by simp [nW]))
  have e0 : wsL D lv l 0 (nW 0) = [] := rfl
  rw [List.drop_zero, e0] at hs
  have hbd : ∀ j, tW D lv l j = -1 ∨ (1 ≤ tW D lv l j ∧ tW D lv l j ≤ (l.length - bg j : Nat)) := fun j => by
    have := lastT_bd D (wA lv j) (l.drop (bg j))
    simpa [tW] using this
  rcases hs with ⟨i1, j, hi1, hc, g1, g2, g3, g4⟩ | ⟨hc, g1⟩
  · -- announced
    have hjb := hbd j
    have hnj : ¬ ((bg j : Int) + tW D lv l j ≤ i1) := by
      intro hle
      have : bg j < i1 + 1 := by omega
      exact g4 j ((bg_lt (by omega) j).1 this) ⟨g1, hle⟩
    have hothers : ∀ j', 0 ≤ tW D lv l j' → (i1 : Int) + 1 ≤ (bg j' : Int) + tW D lv l j' := by
      intro j' ht'
      have hb' := hbd j'
      by_cases h : j' < nW (i1 + 1)
      · have := g4 j' h; omega
      · have : ¬ bg j' < i1 + 1 := fun h3 => h ((bg_lt (by omega) j').1 h3)
        omega
    rcases h2 with ⟨_, _, h3⟩ | ⟨b0, h3, h4, h5, h6, h7, h8⟩
    · exact absurd g1 (h3 j (by omega))
    · have ha := h7 j (by omega) g1
      have hb := hothers b0 h6
      have e1 : b = (i1 : Int) + 1 := by omega
      have e2 : b0 = j := by
        rcases Nat.lt_trichotomy b0 j with h | h | h
        · have := g3 b0 h; omega
        · exact h
        · have := h8 j h g1; omega
      right
      refine ⟨by omega, ?_⟩
      rw [hc, e1, h4, e2]
  · left
    refine ⟨?_, hc⟩
    rcases h2 with ⟨h3, _⟩ | ⟨b0, h3, h4, h5, h6, _⟩
    · omega
    · exfalso
      have hb' := hbd b0
      have : bg b0 < l.length := by omega
      exact g1 b0 ((bg_lt (by omega) b0).1 this) ⟨h6, by omega⟩

theorem CountChanges (l : List Bool) (D A : Int) (_ : l.length ≤ maxLen) (_ : (Lit.int .i64 D).wf = true) (_ : (Lit.int .i64 A).wf = true) :
    ∃ k, overburdenlaw07_CountChanges.f k l D A = some true := by
  refine ⟨9000, ?_⟩
  rw [overburdenlaw07_CountChanges.f, law_few, law_wrong, law_level]
  simp only [Option.bind_some]
  by_cases hf : (((l.length : Int) ≤ 40 ∨ (4000 < (l.length : Int) ∧ (l.length : Int) ≤ 4010)) ∧ (D ≤ 40 ∨ 1000 < D))
  · rw [if_pos (decide_eq_true hf)]
    have hbadj : ∀ b : Int, b ≠ 0 → overburdenlaw07_CountChanges.j1 8999 l D A 0 0 b b = some true := by
      intro b hb
      rw [overburdenlaw07_CountChanges.j1, if_neg hb, if_pos rfl, if_pos rfl, if_pos rfl, known_true 8998 (by omega)]; rfl
    obtain ⟨b, hb⟩ : ∃ b, (if ¬ (2 ≤ D ∧ D ≤ 1000) then (2 : Int) else if 4000 < l.length then 3 else 0) = b := ⟨_, rfl⟩
    by_cases hb0 : b = 0
    · subst hb0
      have hD : 2 ≤ D ∧ D ≤ 1000 := by
        rcases Classical.em (2 ≤ D ∧ D ≤ 1000) with h | h
        · exact h
        · rw [if_pos h] at hb; omega
      have hl : l.length ≤ 4000 := by
        rw [if_neg (fun hn => hn hD)] at hb
        rcases Nat.lt_or_ge 4000 l.length with h | h
        · rw [if_pos h] at hb; omega
        · exact h
      obtain ⟨D, rfl⟩ := Int.eq_ofNat_of_zero_le (show 0 ≤ D by omega)
      cases hA : withinB A 2 100
      · have hlist : listedV l.length D (withinB A 2 100) = 2 := by
          unfold listedV
          rw [if_neg (by omega), if_neg (by omega), hA, if_pos rfl]
        rw [hb, count_Change.f, hlist, if_neg (by decide)]
        simp only [Option.bind_some, if_true, Bool.not_false]
        rw [overburdenlaw07_CountChanges.j0, if_pos rfl]
        exact hbadj 2 (by decide)
      · have hA' := withinB_iff.1 hA
        have hlist : listedV l.length D (withinB A 2 100) = 0 := by
          unfold listedV
          rw [if_neg (by omega), if_neg (by omega), hA, if_neg (by simp)]
        obtain ⟨x, y, h1, h2⟩ := ref_change D A l 8998 (by omega) (by omega) (by omega) hA'.1 hA'.2 (by omega)
        rw [hb, count_Change.f, if_pos hlist]
        simp only [Option.bind_some, if_true, Bool.not_true, Int.toNat_natCast]
        rw [overburdenlaw07_CountChanges.j0, if_neg (by simp), overburdenlaw07_CountChanges.j1, if_pos rfl, h1]
        simp only [Option.bind_some]
        rcases h2 with ⟨g1, g2⟩ | ⟨g1, g2⟩
        · rw [if_pos g1, g2, if_pos rfl, if_pos rfl, if_pos rfl, known_true 8998 (by omega)]; rfl
        · rw [if_neg g1, g2, if_pos rfl, if_pos rfl, if_pos rfl, known_true 8998 (by omega)]; rfl
    · have hne : (if ¬ (2 ≤ D ∧ D ≤ 1000) then (2 : Int) else if 4000 < l.length then 3 else 0) ≠ 0 := by rw [hb]; exact hb0
      rw [count_Change.f, listedV_bad hne, hb, if_neg hb0]
      simp only [Option.bind_some]
      rw [if_neg hb0, overburdenlaw07_CountChanges.j0, if_neg (by simp)]
      exact hbadj b hb0
  · rw [if_neg (by simpa using hf), known_true 9000 (by omega)]; rfl
end Go.Proofs.Ytgofaifmbjallaa.Pure
