import Derived.Test.YtgofaifmbjallaaPax17
import Derived.Test.YtgofaifmbjallaaHs
import Derived.Test.YtgofaifmbjallaaKn
/-! The pure law CountSteady: the watches of a change, together, are a bet that never gains. -/
namespace Go.Proofs.Ytgofaifmbjallaa.Pure
open Go.RowKit Go.Proofs.Ytgofaifmbjallaa.Pa Go.Proofs.YtgofaifmbjallaaW.PrintWords Go.Proofs.YtgofaifmbjallaaW.PrintLast Go.Proofs.YtgofaifmbjallaaW.PrintMore
open Go.Proofs.Ytgofaifmbjallaa.Cn

/-- what all watches are worth, those that have not begun too: N of them -/
def phi (lv : Int) (N k : Nat) : List (Nat → KS) → Nat → Int
  | [], j => 1048576 * 2 ^ (N - j)
  | S :: r, j => worth (wA lv j) (S k) * 2 ^ (N - j - 1) + phi lv N k r (j + 1)
def stepM (D : Nat) (lv : Int) (x : Bool) : List (Nat → KS) → Nat → List (Nat → KS)
  | [], _ => []
  | S :: r, j => stepAll D (wA lv j) x S :: stepM D lv x r (j + 1)
theorem two_nn (n : Nat) : (0 : Int) ≤ 2 ^ n := by
  have e : (2 : Int) ^ n = ((2 ^ n : Nat) : Int) := by simp
  rw [e]; exact Int.natCast_nonneg _
theorem wA_nn {lv : Int} (h : 0 ≤ lv) (j : Nat) : 0 ≤ wA lv j := Int.mul_nonneg h (two_nn _)
theorem phi_new (lv : Int) (N k : Nat) : ∀ (r : List (Nat → KS)) (j : Nat), j + r.length < N → phi lv N k (r ++ [Cn.start]) j = phi lv N k r j
  | [], j, h => by
    simp only [List.length_nil, Nat.add_zero] at h
    have hw : worth (wA lv j) (Cn.start k) = 1048576 := by simp [worth, Cn.start]
    simp only [List.nil_append, phi, hw]
    obtain ⟨m, rfl⟩ : ∃ m, N = j + 1 + m := ⟨N - (j + 1), by omega⟩
    rw [show j + 1 + m - j - 1 = m by omega, show j + 1 + m - (j + 1) = m by omega, show j + 1 + m - j = m + 1 by omega, Int.pow_succ]
    omega
  | S :: r, j, h => by
    simp only [List.length_cons] at h
    simp only [List.cons_append, phi]
    rw [phi_new lv N k r (j + 1) (by omega)]
theorem phi_nn {D lv : Int} {N k : Nat} (hlv : 0 ≤ lv) : ∀ (r : List (Nat → KS)) (j : Nat), (∀ S ∈ r, Run D (S k)) → 0 ≤ phi lv N k r j
  | [], j, _ => Int.mul_nonneg (by omega) (two_nn _)
  | S :: r, j, h => by
    have h1 := phi_nn (N := N) hlv r (j + 1) (fun S hS => h S (List.mem_cons_of_mem _ hS))
    have h2 := Int.mul_nonneg (worth_nn (wA_nn hlv j) (h S (List.mem_cons_self ..))) (two_nn (N - j - 1))
    rw [phi]; omega
theorem phi_fair {D : Nat} {lv : Int} {N k : Nat} (hk : k ≤ D) : ∀ (r : List (Nat → KS)) (j : Nat), (∀ S ∈ r, Run D (S k)) →
    ((D : Int) - k) * phi lv N k (stepM D lv false r j) j + k * phi lv N k (stepM D lv true r j) j ≤ D * phi lv N k r j
  | [], j, _ => by
    simp only [stepM, phi]
    rw [← Int.add_mul, show (D : Int) - k + k = D by omega]
    exact Int.le_refl _
  | S :: r, j, h => by
    have h1 := phi_fair (lv := lv) (N := N) hk r (j + 1) (fun S hS => h S (List.mem_cons_of_mem _ hS))
    have h2 := worth_fair (D := D) (A := wA lv j) (k := k) (by omega) (h S (List.mem_cons_self ..))
    have h3 := Int.mul_le_mul_of_nonneg_right h2 (two_nn (N - j - 1))
    simp only [stepM, phi]
    rw [show stepAll D (wA lv j) false S k = KS.step D (wA lv j) false k (S k) from rfl, show stepAll D (wA lv j) true S k = KS.step D (wA lv j) true k (S k) from rfl]
    generalize worth (wA lv j) (KS.step D (wA lv j) false k (S k)) = u at *
    generalize worth (wA lv j) (KS.step D (wA lv j) true k (S k)) = v at *
    generalize worth (wA lv j) (S k) = y at *
    generalize phi lv N k (stepM D lv false r (j + 1)) (j + 1) = p at *
    generalize phi lv N k (stepM D lv true r (j + 1)) (j + 1) = q at *
    generalize phi lv N k r (j + 1) = z at *
    generalize (2 : Int) ^ (N - j - 1) = t at *
    rw [Int.add_mul, Int.mul_assoc, Int.mul_assoc, Int.mul_assoc] at h3
    rw [Int.mul_add, Int.mul_add, Int.mul_add]
    omega
theorem stepM_run {D : Nat} {lv : Int} {k : Nat} (hk : k ≤ D) (x : Bool) : ∀ (r : List (Nat → KS)) (j : Nat), (∀ S ∈ r, Run D (S k)) → ∀ S ∈ stepM D lv x r j, Run D (S k)
  | [], _, _, S, h => by simp [stepM] at h
  | T :: r, j, h, S, hS => by
    rw [stepM] at hS
    rcases List.mem_cons.1 hS with rfl | hS
    · exact (h T (List.mem_cons_self ..)).step (by omega) (by omega) x
    · exact stepM_run hk x r (j + 1) (fun S hS => h S (List.mem_cons_of_mem _ hS)) S hS
theorem stepM_len (D : Nat) (lv : Int) (x : Bool) : ∀ (r : List (Nat → KS)) (j : Nat), (stepM D lv x r j).length = r.length
  | [], _ => rfl
  | S :: r, j => by simp [stepM, stepM_len D lv x r]
theorem stepW_none {D : Nat} {lv : Int} {x : Bool} : ∀ (r : List (Nat → KS)) (j : Nat), (stepW D lv x r j).1 = none → (stepW D lv x r j).2 = stepM D lv x r j
  | [], _, _ => rfl
  | S :: r, j, h => by
    rw [stepW] at h ⊢
    split at h
    · cases h
    · rename_i hc
      rw [if_neg hc, stepM, stepW_none r (j + 1) h]
theorem stepW_some {D : Nat} {lv : Int} {x : Bool} {N k q : Nat} (hlv : 0 ≤ lv) (hk : k ≤ D) : ∀ (r : List (Nat → KS)) (j : Nat), (∀ S ∈ r, Run D (S k)) → j + r.length ≤ N → (stepW D lv x r j).1 = some q →
    lv * 1048576 * 2 ^ N ≤ phi lv N k (stepM D lv x r j) j
  | [], _, _, _, h => by simp [stepW] at h
  | S :: r, j, hr, hl, h => by
    have hr' : ∀ S ∈ r, Run D (S k) := fun S hS => hr S (List.mem_cons_of_mem _ hS)
    simp only [List.length_cons] at hl
    have hS := (hr S (List.mem_cons_self ..)).step (A := wA lv j) (by omega) (show (k : Int) ≤ D by omega) x
    rw [stepW] at h
    rw [stepM, phi]
    have e : stepAll D (wA lv j) x S k = KS.step D (wA lv j) x k (S k) := rfl
    split at h
    · rename_i hc
      have ho : (stepAll D (wA lv j) x S k).out = true := by
        cases ho : (stepAll D (wA lv j) x S k).out
        · have := cnt_pos ho (D + 1) (by omega); omega
        · rfl
      have hp := phi_nn (N := N) hlv _ (j + 1) (stepM_run (lv := lv) hk x r (j + 1) hr')
      have hw : worth (wA lv j) (stepAll D (wA lv j) x S k) = wA lv j * 1048576 := by unfold worth; rw [if_pos ho]
      rw [hw]
      have : wA lv j * 1048576 * 2 ^ (N - j - 1) = lv * 1048576 * 2 ^ N := by
        unfold wA
        obtain ⟨m, rfl⟩ : ∃ m, N = (j + 1) + m := ⟨N - (j + 1), by omega⟩
        rw [show j + 1 + m - j - 1 = m by omega, show (2 : Int) ^ (j + 1 + m) = 2 ^ (j + 1) * 2 ^ m from Int.pow_add _ _ _]
        generalize (2 : Int) ^ (j + 1) = y
        rw [Int.mul_assoc lv, Int.mul_comm y 1048576, ← Int.mul_assoc lv, Int.mul_assoc (lv * 1048576)]
      omega
    · have ih := stepW_some (N := N) hlv hk r (j + 1) hr' (by omega) h
      have := Int.mul_nonneg (worth_nn (wA_nn hlv j) hS) (two_nn (N - j - 1))
      rw [e]; omega

/-- a change is announced -/
def annT (D : Nat) (lv : Int) (i : Nat) (W : List (Nat → KS)) (l : List Bool) : Bool := (chL D lv l i W).2.2 == 0
theorem newW_run {D : Nat} {k i : Nat} {W : List (Nat → KS)} (h : ∀ S ∈ W, Run D (S k)) : ∀ S ∈ newW i W, Run D (S k) := by
  intro S hS
  unfold newW at hS
  split at hS
  · rw [List.mem_append, List.mem_singleton] at hS
    rcases hS with hS | rfl
    · exact h S hS
    · exact run_start D k
  · exact h S hS
theorem steady_sum {D : Nat} {lv : Int} {k : Nat} (hlv : 0 ≤ lv) (hk : k ≤ D) : ∀ (m i : Nat) (W : List (Nat → KS)), (∀ S ∈ W, Run D (S k)) → W.length = nW i → i + m ≤ 4000 →
    lv * 1048576 * 2 ^ 13 * sumL m (wOf D k (annT D lv i W)) ≤ pw D m * phi lv 13 k W 0
  | 0, i, W, hW, _, _ => by
    have := phi_nn (N := 13) hlv W 0 hW
    simp only [sumL, wOf, annT, chL, pw]
    simp
    exact this
  | m + 1, i, W, hW, hl, hi => by
    have hnw := nW_le (j := i) (by omega)
    have hrun := newW_run (i := i) hW
    have hlen : (newW i W).length = nW (i + 1) := by
      unfold newW; rw [nW]; split <;> simp [hl]
    have hlen13 : (newW i W).length ≤ 13 := by
      unfold newW
      split
      · rename_i hp; have := hnw.2 hp; simp; omega
      · have := hnw.1; omega
    have hphi : phi lv 13 k (newW i W) 0 = phi lv 13 k W 0 := by
      unfold newW
      split
      · rename_i hp
        exact phi_new lv 13 k W 0 (by have := hnw.2 hp; omega)
      · rfl
    have hpw : 0 ≤ pw (D : Int) m := by
      have h := sumL_le m (fun _ => 0) (wT D k) (fun l _ => wT_nn (by omega) (by omega) l)
      rw [sumL_w] at h
      have z := sumL_mul 0 m (wT D k)
      simp at z
      omega
    -- one slot
    have one : ∀ (x : Bool) (c : Int), 0 ≤ c → (∀ l, wT D k (x :: l) = c * wT D k l) →
        lv * 1048576 * 2 ^ 13 * sumL m (fun l => wOf D k (annT D lv i W) (x :: l)) ≤ pw D m * (c * phi lv 13 k (stepM D lv x (newW i W) 0) 0) := by
      intro x c hc hw
      cases hs : (stepW D lv x (newW i W) 0).1 with
      | some q =>
        have hann : ∀ l, wOf D k (annT D lv i W) (x :: l) = c * wT D k l := by
          intro l
          have : annT D lv i W (x :: l) = true := by
            unfold annT; rw [chL, hs]; rfl
          unfold wOf; rw [if_pos this, hw]
        rw [sumL_congr m _ _ (fun l _ => hann l), sumL_mul, sumL_w]
        have h1 := stepW_some (N := 13) hlv hk (newW i W) 0 hrun (by omega) hs
        have h2 := Int.mul_le_mul_of_nonneg_left h1 (Int.mul_nonneg hc hpw)
        rw [Int.mul_comm (lv * 1048576 * 2 ^ 13)]
        rw [show pw (D : Int) m * (c * phi lv 13 k (stepM D lv x (newW i W) 0) 0) = c * pw D m * phi lv 13 k (stepM D lv x (newW i W) 0) 0 by rw [← Int.mul_assoc, Int.mul_comm (pw (D : Int) m) c]]
        exact h2
      | none =>
        have hM := stepW_none _ _ hs
        have hann : ∀ l, wOf D k (annT D lv i W) (x :: l) = c * wOf D k (annT D lv (i + 1) (stepM D lv x (newW i W) 0)) l := by
          intro l
          have : annT D lv i W (x :: l) = annT D lv (i + 1) (stepM D lv x (newW i W) 0) l := by
            unfold annT; rw [chL, hs, hM]
          unfold wOf; rw [this, hw]; split
          · rfl
          · simp
        rw [sumL_congr m _ _ (fun l _ => hann l), sumL_mul]
        have ih := steady_sum hlv hk m (i + 1) (stepM D lv x (newW i W) 0) (stepM_run hk x _ 0 hrun) (by rw [stepM_len, hlen]) (by omega)
        have h2 := Int.mul_le_mul_of_nonneg_left ih hc
        rw [Int.mul_left_comm, show pw (D : Int) m * (c * phi lv 13 k (stepM D lv x (newW i W) 0) 0) = c * (pw D m * phi lv 13 k (stepM D lv x (newW i W) 0) 0) from Int.mul_left_comm _ _ _]
        exact h2
    have o1 := one false ((D : Int) - k) (by omega) (fun l => by simp [wT])
    have o2 := one true k (by omega) (fun l => by simp [wT])
    have hf := phi_fair (lv := lv) (N := 13) hk (newW i W) 0 hrun
    have hf2 := Int.mul_le_mul_of_nonneg_left hf hpw
    rw [hphi] at hf2
    rw [sumL, Int.mul_add, pw]
    rw [Int.mul_add] at hf2
    have e : pw (D : Int) m * (D * phi lv 13 k W 0) = D * pw D m * phi lv 13 k W 0 := by rw [← Int.mul_assoc, Int.mul_comm (pw (D : Int) m)]
    omega
theorem steady (D : Nat) (lv : Int) (k m : Nat) (hlv : 0 ≤ lv) (hk : k ≤ D) (hm : m ≤ 4000) : lv * sumL m (wOf D k (annT D lv 0 [])) ≤ pw D m := by
  have h := steady_sum (D := D) hlv hk m 0 [] (fun S hS => by simp at hS) rfl (by omega)
  have e : phi lv 13 k [] 0 = 1048576 * 2 ^ 13 := rfl
  rw [e] at h
  have e2 : lv * 1048576 * 2 ^ 13 * sumL m (wOf D k (annT D lv 0 [])) = 1048576 * 2 ^ 13 * (lv * sumL m (wOf D k (annT D lv 0 []))) := by
    rw [Int.mul_assoc lv, Int.mul_comm lv, Int.mul_assoc]
  omega

theorem chL_err (D : Nat) (lv : Int) : ∀ (l : List Bool) (i : Nat) (W : List (Nat → KS)), (chL D lv l i W).2.2 = 0 ∨ (chL D lv l i W).2.2 = 5
  | [], _, _ => Or.inr rfl
  | x :: l, i, W => by
    rw [chL]
    split
    · exact Or.inl rfl
    · exact chL_err D lv l (i + 1) _
theorem sum_bound {D : Int} {k : Nat} (hk : (k : Int) ≤ D) (t : List Bool → Bool) (n b : Nat) (hb : b ≤ 2 ^ n) : 0 ≤ sumN (fun b => wOf D k t (outL n b)) b ∧ sumN (fun b => wOf D k t (outL n b)) b ≤ pw D n := by
  have h0 : ∀ l, 0 ≤ wOf D k t l := by
    intro l; unfold wOf; split
    · exact wT_nn (by omega) hk l
    · omega
  refine ⟨sumN_nn b (fun b _ => h0 _), ?_⟩
  refine Int.le_trans (sumN_up (fun b => h0 _) (2 ^ n) hb) ?_
  rw [sumN_L n (wOf D k t), ← sumL_w D k n]
  apply sumL_le
  intro l _
  unfold wOf; split
  · exact Int.le_refl _
  · exact wT_nn (by omega) hk l

theorem steady_l1 (D : Nat) (A : Int) (k s : Nat) (hD : 2 ≤ D) (hD2 : D ≤ 40) (hA : 2 ≤ A) (hA2 : A ≤ 100) (hk : k ≤ D) (hs : s ≤ 8) : ∀ m b K : Nat, b + m = 2 ^ s → 2 * m + 2000 ≤ K →
    overburdenlaw07_CountSteady.l1 K s D A k (pw D s) (sumN (fun b => wOf D k (annT D A 0 []) (outL s b)) b) b = some true := by
  have hN : 2 ^ s ≤ 256 := Nat.pow_le_pow_right (n := 2) (by omega) hs
  have hp := pw_small (D := D) (n := s) (by omega) (by omega) (by omega)
  have hp0 := pw_pos (D := D) (by omega) s
  intro m
  induction m with
  | zero =>
    intro b K hb hK
    obtain ⟨K, rfl⟩ : ∃ j, K = j + 1 := ⟨K - 1, by omega⟩
    have hsure := steady D A k s (by omega) hk (by omega)
    obtain rfl : b = 2 ^ s := by omega
    rw [overburdenlaw07_CountSteady.l1, if_pos (by omega), shl_one s (by omega), if_neg (by omega), if_neg (by omega), tdiv_id (by omega)]
    have hq := quot_bound (a := pw D s) (b := A) (m := 262144000000000) (by omega) (by omega) hp
    have hle : sumN (fun b => wOf D k (annT D A 0 []) (outL s b)) (2 ^ s) ≤ pw D s / A := by
      rw [sumN_L s (wOf D k (annT D A 0 []))]
      apply Int.le_ediv_of_mul_le (by omega)
      rw [Int.mul_comm]; exact hsure
    rw [wrap_id (by omega) (by omega), if_pos hle, known_true K (by omega)]
    rfl
  | succ m ih =>
    intro b K hb hK
    obtain ⟨K, rfl⟩ : ∃ j, K = j + 2 := ⟨K - 2, by omega⟩
    have hn := ih (b + 1) K (by omega) (by omega)
    have hbd := sum_bound (D := D) (k := k) (by omega) (annT D A 0 []) s b (by omega)
    have hbd2 := sum_bound (D := D) (k := k) (by omega) (annT D A 0 []) s (b + 1) (by omega)
    have hlist : listedV (outL s b).length D (withinB A 2 100) = 0 := by
      unfold listedV
      rw [if_neg (by omega), if_neg (by rw [outL_len]; omega), withinB_iff.2 ⟨hA, hA2⟩, if_neg (by simp)]
    rw [overburdenlaw07_CountSteady.l1, if_pos (by omega), shl_one s (by omega), if_pos (by omega), ref_outcome s b _ (by omega) (by omega)]
    simp only [Option.bind_some]
    rw [count_Change.f, if_pos hlist, Int.toNat_natCast]
    simp only [Option.bind_some]
    rw [sumN] at hn hbd2
    have hw : wOf D k (annT D A 0 []) (outL s b) = if (chL D A (outL s b) 0 []).2.2 = 0 then wT D k (outL s b) else 0 := by
      unfold wOf annT; simp
    rw [hw] at hn hbd2
    rcases chL_err D A (outL s b) 0 [] with he | he
    · rw [if_pos he] at hn hbd2
      rw [if_pos he, overburdenlaw07_CountSteady.j3, if_neg (by simp), if_pos he, ref_weight _ D k K (by omega) (by omega) (by omega) (by omega) (by rw [outL_len]; omega) (by rw [outL_len]; omega)]
      rw [wV_T (D := D) (k := k) (by omega) (by omega) (by omega) (by omega) _ 1 (by omega) (by rw [outL_len]; omega), Int.one_mul]
      simp only [Option.bind_some]
      rw [wrap_id (by omega) (by omega), wrap_id (by omega) (by omega)]
      exact hn
    · rw [he, if_neg (by omega)] at hn
      rw [Int.add_zero] at hn
      rw [he, if_neg (by omega), overburdenlaw07_CountSteady.j3, if_neg (by simp), if_neg (by omega), wrap_id (by omega) (by omega)]
      exact hn
theorem steady_l0 (D : Nat) (A : Int) (k s : Nat) (hD : 2 ≤ D) (hD2 : D ≤ 40) (hA : 2 ≤ A) (hA2 : A ≤ 100) (hk : k ≤ D) (hs : s ≤ 8) : ∀ m i K : Nat, i + m = s → m + 2600 ≤ K →
    overburdenlaw07_CountSteady.l0 K s D A k (pw D i) i = some true := by
  have hN : 2 ^ s ≤ 256 := Nat.pow_le_pow_right (n := 2) (by omega) hs
  intro m
  induction m with
  | zero =>
    intro i K hi hK
    obtain ⟨K, rfl⟩ : ∃ j, K = j + 1 := ⟨K - 1, by omega⟩
    obtain rfl : i = s := by omega
    rw [overburdenlaw07_CountSteady.l0, if_neg (by omega)]
    exact steady_l1 D A k i hD hD2 hA hA2 hk hs (2 ^ i) 0 K (by omega) (by omega)
  | succ m ih =>
    intro i K hi hK
    obtain ⟨K, rfl⟩ : ∃ j, K = j + 1 := ⟨K - 1, by omega⟩
    have hp := pw_small (D := D) (n := i + 1) (by omega) (by omega) (by omega)
    have hp0 := pw_pos (D := D) (by omega) (i + 1)
    have e : pw D i * D = pw D (i + 1) := Int.mul_comm _ _
    rw [overburdenlaw07_CountSteady.l0, if_pos (by omega), e, wrap_id (by omega) (by omega), wrap_id (by omega) (by omega)]
    exact ih (i + 1) K (by omega) (by omega)

theorem CountSteady : overburdenlaw07_CountSteady.Pure := by
  intro a0 a1 A a3 _ _ _ _
  refine ⟨3000, ?_⟩
  have key : overburdenlaw07_CountSteady.j0 3000 a0 a1 A a3 true = some true := by
    rw [overburdenlaw07_CountSteady.j0, if_pos rfl, known_true _ (by omega)]; rfl
  unfold overburdenlaw07_CountSteady.f
  split
  · exact key
  · split
    · exact key
    · split
      · exact key
      · split
        · exact key
        · rw [law_level]
          simp only [Option.bind_some]
          split
          · rename_i hA
            rw [withinB_iff] at hA
            split
            · exact key
            · by_cases h : a3 > a1
              · rw [decide_eq_true h]; exact key
              · rw [decide_eq_false h]
                obtain ⟨s, rfl⟩ := Int.eq_ofNat_of_zero_le (show 0 ≤ a0 by omega)
                obtain ⟨D, rfl⟩ := Int.eq_ofNat_of_zero_le (show 0 ≤ a1 by omega)
                obtain ⟨k, rfl⟩ := Int.eq_ofNat_of_zero_le (show 0 ≤ a3 by omega)
                rw [overburdenlaw07_CountSteady.j0, if_neg (by simp)]
                exact steady_l0 D A k s (by omega) (by omega) hA.1 hA.2 (by omega) (by omega) s 0 2999 (by omega) (by omega)
          · exact key
end Go.Proofs.Ytgofaifmbjallaa.Pure
