/- Texts of one claim joined into one: words and contracts. -/
import Derived.Test.YteigcddmbpfahaaR1
import Derived.Test.YteigcddmbpfahaaGk
import Derived.Test.YteigcddmbpfahaaGd
import Derived.Test.YteigcddmbpfahaaPbx
section
namespace Go.Proofs.Yteigcddmbpfahaa.Pure
set_option linter.unusedVariables false
open Go.RowKit Go.Proofs.YteigcddmbpfahaaW.PrintWords Go.Proofs.YteigcddmbpfahaaW.PrintLast Go.Proofs.YteigcddmbpfahaaW.PrintMore
open Go.Proofs.Yteigcddmbpfahaa.Cn Go.Proofs.Yteigcddmbpfahaa.Pc
def cF (D : Nat) (A k : Int) (lo hi : Nat) (v : Int) (l : List Bool) : Int := if (decideS (runS D A l Cn.start) D lo hi).1 = v then wT D k l else 0
theorem cF_nn {D : Nat} {A k : Int} {lo hi : Nat} {v : Int} (hk : 0 ≤ k) (hk2 : k ≤ D) (l : List Bool) : 0 ≤ cF D A k lo hi v l := by
  unfold cF; split
  · exact wT_nn hk hk2 l
  · omega
theorem cF_le {D : Nat} {A k : Int} {lo hi : Nat} {v : Int} (hk : 0 ≤ k) (hk2 : k ≤ D) (l : List Bool) : cF D A k lo hi v l ≤ wT D k l := by
  unfold cF; split
  · exact Int.le_refl _
  · exact wT_nn hk hk2 l
theorem cpow_T {s D : Nat} {A k : Int} {lo hi : Nat} {v : Int} (hk : 0 ≤ k) (hk2 : k ≤ D) (hD : 1 ≤ D) (hD2 : D ≤ 1000) (hb : pw D s ≤ 1152921504606846976) :
    ∀ b, b ≤ 2 ^ s → powV s D A k lo hi v b = sumN (fun b => cF D A k lo hi v (outL s b)) b := by
  have hall : ∀ b, b ≤ 2 ^ s → sumN (fun b => cF D A k lo hi v (outL s b)) b ≤ 1152921504606846976 := by
    intro b hbs
    refine Int.le_trans (sumN_up (fun b => cF_nn hk hk2 _) (2 ^ s) hbs) ?_
    rw [sumN_L s (cF D A k lo hi v)]
    refine Int.le_trans (sumL_le s _ (wT D k) (fun l _ => cF_le hk hk2 l)) ?_
    rw [sumL_w]; exact hb
  intro b
  induction b with
  | zero => intro _; simp [powV, sumN]
  | succ b ih =>
    intro hbs
    have h1 := ih (by omega)
    have h2 := hall (b + 1) hbs
    have hp := pw_pos (D := D) (by omega) s
    have hw : wV D k (outL s b) 1 = wT D k (outL s b) := by
      rw [wV_T (D := D) hk hk2 (by omega) (by omega) _ 1 (by omega) (by rw [outL_len]; omega)]; omega
    have h0 : 0 ≤ sumN (fun b => cF D A k lo hi v (outL s b)) b := sumN_nn b (fun b _ => cF_nn hk hk2 _)
    have h3 := wT_nn hk hk2 (outL s b)
    rw [powV, sumN, h1, hw, Int.toNat_natCast]
    rw [sumN] at h2
    unfold cF at h2 h0 ⊢
    by_cases hv : (decideS (runS D A (outL s b) Cn.start) D lo hi).1 = v
    · rw [if_pos hv] at h2 ⊢
      by_cases hpos : 0 < wT D k (outL s b)
      · rw [if_pos ⟨hpos, hv⟩, wrap_id (by omega) (by omega)]
      · rw [if_neg (fun h => hpos h.1)]; omega
    · rw [if_neg (fun h => hv h.2), if_neg hv]; omega
def tF (D k h : Int) (l : List Bool) : Int := if h ≤ hitsN l then wT D k l else 0
theorem tF_nn {D k h : Int} (hk : 0 ≤ k) (hk2 : k ≤ D) (l : List Bool) : 0 ≤ tF D k h l := by
  unfold tF; split
  · exact wT_nn hk hk2 l
  · omega
theorem tF_le {D k h : Int} (hk : 0 ≤ k) (hk2 : k ≤ D) (l : List Bool) : tF D k h l ≤ wT D k l := by
  unfold tF; split
  · omega
  · exact wT_nn hk hk2 l
theorem tail_T {s : Nat} {D k h : Int} (hk : 0 ≤ k) (hk2 : k ≤ D) (hD : 1 ≤ D) (hD2 : D ≤ 1000) (hb : pw D s ≤ 1152921504606846976) :
    ∀ b, b ≤ 2 ^ s → tailS s D k h b = sumN (fun b => tF D k h (outL s b)) b := by
  have hall : ∀ b, b ≤ 2 ^ s → sumN (fun b => tF D k h (outL s b)) b ≤ 1152921504606846976 := by
    intro b hbs
    refine Int.le_trans (sumN_up (fun b => tF_nn hk hk2 _) (2 ^ s) hbs) ?_
    rw [sumN_L s (tF D k h)]
    refine Int.le_trans (sumL_le s _ (wT D k) (fun l _ => tF_le hk hk2 l)) ?_
    rw [sumL_w]; exact hb
  intro b
  induction b with
  | zero => intro _; simp [tailS, sumN]
  | succ b ih =>
    intro hbs
    have h1 := ih (by omega)
    have h2 := hall (b + 1) hbs
    have hp := pw_pos hD s
    have hw : wV D k (outL s b) 1 = wT D k (outL s b) := by
      rw [wV_T hk hk2 hD (by omega) _ 1 (by omega) (by rw [outL_len]; omega)]; omega
    have h0 : 0 ≤ sumN (fun b => tF D k h (outL s b)) b := sumN_nn b (fun b _ => tF_nn hk hk2 _)
    have h3 := wT_nn hk hk2 (outL s b)
    rw [tailS, sumN, h1, hw]
    rw [sumN] at h2
    unfold tF at h2 ⊢
    unfold tF at h0
    split
    · rename_i hh
      rw [if_pos hh] at h2
      rw [wrap_id (by omega) (by omega)]
    · omega

theorem pw_add (D : Int) (a : Nat) : ∀ b, pw D (a + b) = pw D a * pw D b
  | 0 => by simp [pw]
  | b + 1 => by rw [← Nat.add_assoc, pw, pw, pw_add D a b, ← Int.mul_assoc, ← Int.mul_assoc, Int.mul_comm D]
theorem pw_pw (D : Int) (s : Nat) : ∀ n, pw (pw D s) n = pw D (s * n)
  | 0 => rfl
  | n + 1 => by rw [pw, pw_pw D s n, Nat.mul_succ, Nat.add_comm (s * n) s, pw_add]
theorem pw_mono {D : Int} (h : 1 ≤ D) {a b : Nat} (hab : a ≤ b) : pw D a ≤ pw D b := by
  obtain ⟨c, rfl⟩ : ∃ c, b = a + c := ⟨b - a, by omega⟩
  rw [pw_add]
  have h1 := pw_pos h a
  have h2 := pw_pos h c
  have := Int.mul_le_mul_of_nonneg_left h2 (show 0 ≤ pw D a by omega)
  simpa using this
theorem cwholeL_T {D : Int} (hD : 1 ≤ D) : ∀ (i : Nat) (n : Int), 0 ≤ n → n ≤ 1152921504606846976 → (cwholeL D i n).2 = true → (cwholeL D i n).1 = n * pw D i ∧ n * pw D i ≤ 1152921504606846976
  | 0, n, h0, h1, _ => by simp [cwholeL, pw]; omega
  | i + 1, n, h0, h1, h => by
    rw [cwholeL] at h ⊢
    split at h
    · cases h
    · rename_i hq
      rw [if_neg hq]
      have hm : n * D ≤ 1152921504606846976 := Int.mul_le_of_le_ediv (show 0 < D by omega) (by omega)
      have := cwholeL_T hD i (n * D) (Int.mul_nonneg h0 (by omega)) hm h
      rw [pw, ← Int.mul_assoc]
      exact this
theorem camp_pw {P lv bu : Int} {ss : List S58} {s : Nat} (h : CampG P lv bu ss s) : (cwholeV P s).1 = pw P (3 * s) ∧ pw P (3 * s) ≤ 1152921504606846976 ∧ s ≤ 12 := by
  have hw := h.wh
  have h2 := h.p2
  unfold cwholeV at hw ⊢
  split at hw
  · cases hw
  · rename_i h12
    rw [if_neg h12]
    have := cwholeL_T (D := P) (by omega) (3 * s) 1 (by omega) (by omega) hw
    rw [Int.one_mul] at this
    exact ⟨this.1, this.2, by omega⟩
theorem camp_pw1 {P lv bu : Int} {ss : List S58} {s : Nat} (h : CampG P lv bu ss s) : 1 ≤ pw P s ∧ pw P s ≤ 1152921504606846976 ∧ pw (pw P s) 3 ≤ 1152921504606846976 ∧ (cwholeV P s).1 = pw (pw P s) 3 ∧ (wholeV s P) = (pw P s, 0) := by
  obtain ⟨h1, h2, h3⟩ := camp_pw h
  have p2 := h.p2
  have p3 := h.p3
  have hm := pw_mono (D := P) (by omega) (show s ≤ 3 * s by omega)
  have e : pw (pw P s) 3 = pw P (3 * s) := by rw [pw_pw, Nat.mul_comm]
  refine ⟨pw_pos (by omega) s, by omega, by omega, by rw [e]; exact h1, ?_⟩
  have hz : (wholeV (s : Int) P).2 = 0 := by
    rw [wholeV, if_neg (by omega), if_neg (by omega), Int.toNat_natCast]
    exact wholeL_N (by omega) s 1 (by omega) (by omega)
  have := whole_T hz
  rw [← this.1, ← hz]

theorem site_of {P lv bu : Int} {ss : List S58} {s : Nat} (h : CampG P lv bu ss s) {i : Int} (h0 : 0 ≤ i) (h1 : i < ss.length) :
    1 ≤ (rd_T58 ss i).f2 ∧ (rd_T58 ss i).f2 ≤ P ∧ 0 ≤ (rd_T58 ss i).f1 ∧ (rd_T58 ss i).f1 < (rd_T58 ss i).f2 ∧ 0 ≤ (rd_T58 ss i).f3 ∧ (rd_T58 ss i).f3 ≤ P := by
  obtain ⟨n, rfl⟩ := Int.eq_ofNat_of_zero_le h0
  have := h.site n (by omega)
  exact this.2.2
def rateOf (ss : List S58) (e : Bool) (i : Int) : Int := if e then (rd_T58 ss i).f1 else (rd_T58 ss i).f3
def abv (P : Int) (s : Nat) (ss : List S58) (LV : Int) (e : Bool) (i : Int) : Int :=
  sumL s (cF P.toNat LV (rateOf ss e i) (rd_T58 ss i).f1.toNat (rd_T58 ss i).f2.toNat 3)
theorem rate_bd {P lv bu : Int} {ss : List S58} {s : Nat} (h : CampG P lv bu ss s) {i : Int} (h0 : 0 ≤ i) (h1 : i < ss.length) (e : Bool) : 0 ≤ rateOf ss e i ∧ rateOf ss e i ≤ P := by
  obtain ⟨s1, s2, s3, s4, s5, s6⟩ := site_of h h0 h1
  unfold rateOf
  split <;> omega
theorem chK_T {P lv bu : Int} {ss : List S58} {s : Nat} (h : CampG P lv bu ss s) {i LV : Int} (h0 : 0 ≤ i) (h1 : i < ss.length) (l0 : 2 ≤ LV) (l1 : LV ≤ 900000) (e : Bool) :
    (chK P s ss (i, LV, e)).2.2.2.1 = pw P s ∧ (chK P s ss (i, LV, e)).2.1 = abv P s ss LV e i := by
  obtain ⟨s1, s2, s3, s4, s5, s6⟩ := site_of h h0 h1
  obtain ⟨w1, w2, w3, w4, w5⟩ := camp_pw1 h
  obtain ⟨r0, r1⟩ := rate_bd h h0 h1 e
  have p2 := h.p2
  have p3 := h.p3
  obtain ⟨D, rfl⟩ := Int.eq_ofNat_of_zero_le (show 0 ≤ P by omega)
  have hok : powerOk D LV (rateOf ss e i) (rd_T58 ss i).f1 (rd_T58 ss i).f2 = true := by
    simp [powerOk, withinB]; omega
  unfold chK abv
  simp only
  rw [show (if e = true then (rd_T58 ss i).f1 else (rd_T58 ss i).f3) = rateOf ss e i from rfl]
  unfold count_Power.f
  rw [w5]
  simp only [if_true]
  rw [if_pos hok]
  simp only [Option.getD_some, Int.toNat_natCast, true_and]
  rw [cpow_T r0 r1 (by omega) (by omega) w2 (2 ^ s) (Nat.le_refl _), sumN_L s (cF D LV (rateOf ss e i) (rd_T58 ss i).f1.toNat (rd_T58 ss i).f2.toNat 3)]
theorem abv_bd {P lv bu : Int} {ss : List S58} {s : Nat} (h : CampG P lv bu ss s) {i LV : Int} (h0 : 0 ≤ i) (h1 : i < ss.length) (e : Bool) : 0 ≤ abv P s ss LV e i ∧ abv P s ss LV e i ≤ pw P s := by
  obtain ⟨r0, r1⟩ := rate_bd h h0 h1 e
  have p2 := h.p2
  have e1 : ((P.toNat : Nat) : Int) = P := Int.toNat_of_nonneg (by omega)
  unfold abv
  have r1' : rateOf ss e i ≤ ((P.toNat : Nat) : Int) := by omega
  constructor
  · have z := sumL_mul 0 s (wT P.toNat (rateOf ss e i))
    simp at z
    have := sumL_le s (fun _ => 0) (cF P.toNat LV (rateOf ss e i) (rd_T58 ss i).f1.toNat (rd_T58 ss i).f2.toNat 3) (fun l _ => cF_nn r0 r1' l)
    omega
  · have := sumL_le s (cF P.toNat LV (rateOf ss e i) (rd_T58 ss i).f1.toNat (rd_T58 ss i).f2.toNat 3) (wT P.toNat (rateOf ss e i)) (fun l _ => cF_le r0 r1' l)
    rw [sumL_w, e1] at this
    exact this

def prodS (f : Int → Int) : List Int → Int
  | [] => 1
  | i :: l => f i * prodS f l
theorem prodS_bd {f : Int → Int} {D : Int} (hD : 0 ≤ D) : ∀ l : List Int, (∀ i ∈ l, 0 ≤ f i ∧ f i ≤ D) → 0 ≤ prodS f l ∧ prodS f l ≤ pw D l.length
  | [], _ => by simp [prodS, pw]
  | i :: l, h => by
    obtain ⟨a, b⟩ := prodS_bd hD l (fun j hj => h j (List.mem_cons_of_mem _ hj))
    obtain ⟨c, d⟩ := h i List.mem_cons_self
    rw [prodS, List.length_cons, pw]
    exact ⟨Int.mul_nonneg c a, mul_le_nn d b a hD⟩
def silS (P : Int) (s : Nat) (ss : List S58) (LV : Int) (e : Bool) (l : List Int) : Int := prodS (fun i => pw P s - abv P s ss LV e i) l
theorem sil_bd {P lv bu : Int} {ss : List S58} {s : Nat} (h : CampG P lv bu ss s) {LV : Int} (e : Bool) {l : List Int} (hl : InS ss l) : 0 ≤ silS P s ss LV e l ∧ silS P s ss LV e l ≤ pw (pw P s) l.length :=
  prodS_bd (by have := (camp_pw1 h).1; omega) l (fun i hi => by have := abv_bd h (LV := LV) (hl i hi).1 (hl i hi).2 e; omega)
theorem oddsG_T {P lv bu : Int} {ss : List S58} {s : Nat} (h : CampG P lv bu ss s) {LV : Int} (l0 : 2 ≤ LV) (l1 : LV ≤ 900000) (e : Bool) : ∀ (l : List Int) (a t : Int), InS ss l → 0 ≤ t → t ≤ a → a * pw (pw P s) l.length ≤ 1152921504606846976 →
    oddsG P s ss LV e l a t = (a * pw (pw P s) l.length, t * silS P s ss LV e l)
  | [], a, t, _, _, _, _ => by simp [oddsG, pw, silS, prodS]
  | i :: l, a, t, hl, h0, h1, h2 => by
    obtain ⟨g0, g1⟩ := hl i List.mem_cons_self
    obtain ⟨c1, c2⟩ := chK_T h g0 g1 l0 l1 e
    obtain ⟨b0, b1⟩ := abv_bd h (LV := LV) g0 g1 e
    obtain ⟨w1, w2, w3, w4, w5⟩ := camp_pw1 h
    have hp := pw_pos (D := pw P s) w1 l.length
    rw [List.length_cons, pw, ← Int.mul_assoc] at h2
    have ha : a * pw P s ≤ 1152921504606846976 := by
      refine Int.le_trans ?_ h2
      have := Int.mul_le_mul_of_nonneg_left hp (show 0 ≤ a * pw P s from Int.mul_nonneg (by omega) (by omega))
      simpa using this
    have ha0 : 0 ≤ a * pw P s := Int.mul_nonneg (by omega) (by omega)
    have ht0 : 0 ≤ t * (pw P s - abv P s ss LV e i) := Int.mul_nonneg h0 (by omega)
    have ht1 : t * (pw P s - abv P s ss LV e i) ≤ a * pw P s := mul_le_nn h1 (by omega) (by omega) (by omega)
    rw [oddsG, c1, c2, wrap_id (x := pw P s - abv P s ss LV e i) (by omega) (by omega), wrap_id (by omega) (by omega), wrap_id (by omega) (by omega),
      oddsG_T h l0 l1 e l _ _ (fun j hj => hl j (List.mem_cons_of_mem _ hj)) ht0 ht1 h2]
    simp only [List.length_cons, pw, silS, prodS, Int.mul_assoc]
theorem odds_T {P lv bu : Int} {ss : List S58} {s : Nat} (h : CampG P lv bu ss s) (e : Bool) {l : List Int} (n1 : 1 ≤ l.length) (n3 : l.length ≤ 3) (hl : InS ss l) :
    oddsA P s ss lv e l = pw (pw P s) l.length ∧ oddsW P s ss lv e l = pw (pw P s) l.length - silS P s ss (lv * l.length) e l := by
  obtain ⟨w1, w2, w3, w4, w5⟩ := camp_pw1 h
  have hm := pw_mono (D := pw P s) w1 n3
  have hlv := h.l2
  have hlv3 := h.l3
  have hL : 2 ≤ lv * (l.length : Int) ∧ lv * (l.length : Int) ≤ 900000 := by
    have h1 := Int.mul_le_mul hlv (show (1 : Int) ≤ l.length by omega) (by omega) (by omega)
    have h2 := Int.mul_le_mul hlv3 (show (l.length : Int) ≤ 3 by omega) (by omega) (by omega)
    omega
  have hG := oddsG_T h hL.1 hL.2 e l 1 1 hl (by omega) (by omega) (by omega)
  rw [Int.one_mul, Int.one_mul] at hG
  obtain ⟨b0, b1⟩ := sil_bd h (LV := lv * (l.length : Int)) e hl
  have hp := pw_pos (D := pw P s) w1 l.length
  refine ⟨by rw [oddsA, hG], ?_⟩
  rw [oddsW, hG]
  simp only
  rw [wrap_id (by omega) (by omega)]
theorem odds_ok {P lv bu : Int} {ss : List S58} {s : Nat} (h : CampG P lv bu ss s) {l : List Int} (hl : ChoiceG bu ss l) : OddsOk P s ss lv (cwholeV P s).1 l := by
  obtain ⟨w1, w2, w3, w4, w5⟩ := camp_pw1 h
  obtain ⟨hA, hW⟩ := odds_T h false hl.n1 hl.n3 hl.inS
  obtain ⟨b0, b1⟩ := sil_bd h (LV := lv * (l.length : Int)) false hl.inS
  have hm := pw_mono (D := pw P s) w1 hl.n3
  have hp := pw_pos (D := pw P s) w1 l.length
  have hN : 0 ≤ (cwholeV P s).1 := by rw [w4]; have := pw_pos (D := pw P s) w1 3; omega
  have hq0 : 0 ≤ (cwholeV P s).1 / pw (pw P s) l.length := Int.ediv_nonneg hN (by omega)
  have hq1 : pw (pw P s) l.length * ((cwholeV P s).1 / pw (pw P s) l.length) ≤ (cwholeV P s).1 := Int.mul_ediv_self_le (by omega)
  refine ⟨by rw [hA]; exact hp, by rw [hA]; omega, by rw [hW]; omega, by rw [hW]; omega, ?_, ?_⟩
  · rw [hA, hW]; exact Int.mul_nonneg (by omega) hq0
  · rw [hA, hW]
    have := Int.mul_le_mul_of_nonneg_right (show pw (pw P s) l.length - silS P s ss (lv * (l.length : Int)) false l ≤ pw (pw P s) l.length by omega) hq0
    omega
end Go.Proofs.Yteigcddmbpfahaa.Pure
end
section
namespace Go.Proofs.Yteigcddmbpfahaa.Pure
set_option linter.unusedVariables false
open Go.RowKit Go.Proofs.YteigcddmbpfahaaW.PrintWords Go.Proofs.YteigcddmbpfahaaW.PrintLast Go.Proofs.YteigcddmbpfahaaW.PrintMore
open Go.Proofs.Yteigcddmbpfahaa.Cn Go.Proofs.Yteigcddmbpfahaa.Pc
def Asc : Nat → List Int → Prop
  | _, [] => True
  | i, x :: l => ∃ n : Nat, x = (n : Int) ∧ i ≤ n ∧ Asc (n + 1) l
theorem Asc.mono {i k : Nat} (h : i ≤ k) : ∀ {l : List Int}, Asc k l → Asc i l
  | [], _ => trivial
  | x :: l, ⟨n, e, hn, hl⟩ => ⟨n, e, by omega, hl⟩
theorem moreL_mem (ss : List S58) (bu : Int) : ∀ (r d : Nat) (xs : List Int) (i : Nat) (l : List Int), l ∈ moreL ss bu d r xs i ↔
    ∃ ys, ys ≠ [] ∧ l = xs ++ ys ∧ Asc i ys ∧ (∀ y ∈ ys, y < ((i + r : Nat) : Int)) ∧ ys.length ≤ d + 1 ∧ costV ss l ≤ bu
  | 0, d, xs, i, l => by
    have e : moreL ss bu d 0 xs i = [] := by cases d <;> rfl
    rw [e]
    constructor
    · intro h; cases h
    · rintro ⟨ys, h1, _, h2, h3, _⟩
      cases ys with
      | nil => exact absurd rfl h1
      | cons y ys =>
        obtain ⟨n, e, hn, _⟩ := h2
        have := h3 y List.mem_cons_self
        omega
  | r + 1, d, xs, i, l => by
    have hstep : ∀ z : Prop, (∃ ys, ys ≠ [] ∧ l = xs ++ ys ∧ Asc i ys ∧ (∀ y ∈ ys, y < ((i + (r + 1) : Nat) : Int)) ∧ ys.length ≤ d + 1 ∧ costV ss l ≤ bu) ↔
        ((l = xs ++ [(i : Int)] ∧ costV ss l ≤ bu) ∨ (∃ ys, ys ≠ [] ∧ l = (xs ++ [(i : Int)]) ++ ys ∧ Asc (i + 1) ys ∧ (∀ y ∈ ys, y < ((i + 1 + r : Nat) : Int)) ∧ ys.length + 1 ≤ d + 1 ∧ costV ss l ≤ bu) ∨
          (∃ ys, ys ≠ [] ∧ l = xs ++ ys ∧ Asc (i + 1) ys ∧ (∀ y ∈ ys, y < ((i + 1 + r : Nat) : Int)) ∧ ys.length ≤ d + 1 ∧ costV ss l ≤ bu)) := by
      intro z
      constructor
      · rintro ⟨ys, h1, h2, h3, h4, h5, h6⟩
        cases ys with
        | nil => exact absurd rfl h1
        | cons y ys =>
          obtain ⟨n, e, hn, hl⟩ := h3
          rcases Nat.eq_or_lt_of_le hn with g | g
          · subst g
            subst e
            cases ys with
            | nil => exact Or.inl ⟨h2, h6⟩
            | cons y2 ys2 =>
              exact Or.inr (Or.inl ⟨y2 :: ys2, by simp, by rw [h2]; simp, hl, fun y hy => by have := h4 y (List.mem_cons_of_mem _ hy); omega, h5, h6⟩)
          · exact Or.inr (Or.inr ⟨y :: ys, by simp, h2, ⟨n, e, g, hl⟩, fun y hy => by have := h4 y hy; omega, h5, h6⟩)
      · rintro (⟨h1, h2⟩ | ⟨ys, h1, h2, h3, h4, h5, h6⟩ | ⟨ys, h1, h2, h3, h4, h5, h6⟩)
        · exact ⟨[(i : Int)], by simp, h1, ⟨i, rfl, Nat.le_refl _, trivial⟩, fun y hy => by rw [List.mem_singleton] at hy; omega, by simp, h2⟩
        · exact ⟨(i : Int) :: ys, by simp, by rw [h2]; simp, ⟨i, rfl, Nat.le_refl _, h3⟩, fun y hy => by
            rcases List.mem_cons.1 hy with g | g
            · omega
            · have := h4 y g; omega, by simpa using h5, h6⟩
        · exact ⟨ys, h1, h2, h3.mono (by omega), fun y hy => by have := h4 y hy; omega, h5, h6⟩
    rw [hstep True]
    have hif : l ∈ (if costV ss (xs ++ [(i : Int)]) ≤ bu then [xs ++ [(i : Int)]] else []) ↔ (l = xs ++ [(i : Int)] ∧ costV ss l ≤ bu) := by
      split
      · rename_i h
        rw [List.mem_singleton]
        exact ⟨fun e => ⟨e, by rw [e]; exact h⟩, fun e => e.1⟩
      · rename_i h
        exact ⟨fun e => (by cases e), fun e => absurd (by rw [← e.1]; exact e.2) h⟩
    cases d with
    | zero =>
      rw [moreL, List.mem_append, hif, moreL_mem ss bu r 0 xs (i + 1) l]
      constructor
      · rintro (h | h)
        · exact Or.inl h
        · exact Or.inr (Or.inr h)
      · rintro (h | ⟨ys, h1, _, _, _, h5, _⟩ | h)
        · exact Or.inl h
        · cases ys with
          | nil => exact absurd rfl h1
          | cons y ys => simp at h5
        · exact Or.inr h
    | succ d =>
      rw [moreL, List.mem_append, hif, List.mem_append, moreL_mem ss bu r d (xs ++ [(i : Int)]) (i + 1) l, moreL_mem ss bu r (d + 1) xs (i + 1) l]
      constructor
      · rintro (h | ⟨ys, h1, h2, h3, h4, h5, h6⟩ | h)
        · exact Or.inl h
        · exact Or.inr (Or.inl ⟨ys, h1, h2, h3, h4, by omega, h6⟩)
        · exact Or.inr (Or.inr h)
      · rintro (h | ⟨ys, h1, h2, h3, h4, h5, h6⟩ | h)
        · exact Or.inl h
        · exact Or.inr (Or.inl ⟨ys, h1, h2, h3, h4, by omega, h6⟩)
        · exact Or.inr (Or.inr h)
theorem asc_up : ∀ (l : List Int) (i : Nat), Asc i l → (∀ j : Nat, 0 < j → (h : j < l.length) → l[j - 1]'(by omega) < l[j]) ∧ (∀ y ∈ l, (i : Int) ≤ y)
  | [], _, _ => ⟨fun j _ h => by simp at h, fun y h => by cases h⟩
  | x :: l, i, ⟨n, e, hn, hl⟩ => by
    obtain ⟨h1, h2⟩ := asc_up l (n + 1) hl
    refine ⟨fun j h0 h => ?_, fun y hy => ?_⟩
    · cases j with
      | zero => omega
      | succ j =>
        simp only [List.getElem_cons_succ, Nat.add_sub_cancel]
        cases j with
        | zero =>
          simp only [List.getElem_cons_zero]
          have := h2 _ (List.getElem_mem (by simpa using h))
          omega
        | succ j =>
          simp only [List.getElem_cons_succ]
          exact h1 (j + 1) (by omega) (by simpa using h)
    · rcases List.mem_cons.1 hy with g | g
      · omega
      · have := h2 y g; omega
theorem up_asc : ∀ (l : List Int) (i : Nat), (∀ j : Nat, 0 < j → (h : j < l.length) → l[j - 1]'(by omega) < l[j]) → (∀ y, l[0]? = some y → (i : Int) ≤ y) → Asc i l
  | [], _, _, _ => trivial
  | x :: l, i, h1, h2 => by
    have hx := h2 x rfl
    obtain ⟨n, rfl⟩ := Int.eq_ofNat_of_zero_le (show 0 ≤ x by omega)
    refine ⟨n, rfl, by omega, up_asc l (n + 1) (fun j h0 h => ?_) (fun y hy => ?_)⟩
    · have := h1 (j + 1) (by omega) (by simpa using h)
      simp only [List.getElem_cons_succ, Nat.add_sub_cancel] at this
      cases j with
      | zero => omega
      | succ j => simpa using this
    · cases l with
      | nil => cases hy
      | cons z l =>
        simp only [List.getElem?_cons_zero, Option.some.injEq] at hy
        subst hy
        have := h1 1 (by omega) (by simp)
        simp at this
        omega
theorem choices_mem (ss : List S58) (bu : Int) (l : List Int) : l ∈ choicesL ss bu ↔ ChoiceG bu ss l := by
  unfold choicesL
  rw [moreL_mem]
  constructor
  · rintro ⟨ys, h1, h2, h3, h4, h5, h6⟩
    rw [List.nil_append] at h2
    subst h2
    obtain ⟨g1, g2⟩ := asc_up l 0 h3
    exact ⟨List.length_pos_iff.2 h1, h5, fun i hi => by have := g2 i hi; have := h4 i hi; omega, g1, h6⟩
  · intro h
    refine ⟨l, List.length_pos_iff.1 h.n1, rfl, up_asc l 0 h.up (fun y hy => ?_), fun y hy => by have := h.inS y hy; omega, h.n3, h.cost⟩
    exact (h.inS y (List.mem_of_getElem? hy)).1

def numOf (P : Int) (s : Nat) (ss : List S58) (lv N : Int) (l : List Int) : Int := oddsW P s ss lv false l * (N / oddsA P s ss lv false l)
structure Top (P : Int) (s : Nat) (ss : List S58) (lv N : Int) (L : List (List Int)) (st : BSt) : Prop where
  none : L = [] → st.best = [] ∧ st.g = -1
  mem : L ≠ [] → st.best ∈ L ∧ st.w = oddsW P s ss lv false st.best ∧ st.a = oddsA P s ss lv false st.best ∧ st.g = numOf P s ss lv N st.best
  top : ∀ l ∈ L, numOf P s ss lv N l ≤ st.g ∧ (numOf P s ss lv N l = st.g → costV ss st.best ≤ costV ss l)
theorem rev_ind {α : Type} {P : List α → Prop} (h0 : P []) (h1 : ∀ l a, P l → P (l ++ [a])) (l : List α) : P l := by
  rw [← List.reverse_reverse l]
  induction l.reverse with
  | nil => exact h0
  | cons x xs ih => rw [List.reverse_cons]; exact h1 _ _ ih
theorem best_top (P : Int) (s : Nat) (ss : List S58) (lv N : Int) (L : List (List Int)) (h : ∀ l ∈ L, 0 ≤ numOf P s ss lv N l) : Top P s ss lv N L (bestOf P s ss lv N L) := by
  revert h
  refine rev_ind (P := fun L => (∀ l ∈ L, 0 ≤ numOf P s ss lv N l) → Top P s ss lv N L (bestOf P s ss lv N L)) (fun _ => ⟨fun _ => ⟨rfl, rfl⟩, fun h => absurd rfl h, fun l hl => by cases hl⟩) (fun L l ih h => ?_) L
  · have hT := ih (fun l hl => h l (List.mem_append_left _ hl))
    have h0 := h l (by simp)
    have e : bestOf P s ss lv N (L ++ [l]) = bestStep P s ss lv N (bestOf P s ss lv N L) l := by
      unfold bestOf; rw [List.foldl_append]; rfl
    rw [e]
    generalize bestOf P s ss lv N L = st at *
    have en : oddsW P s ss lv false l * (N / oddsA P s ss lv false l) = numOf P s ss lv N l := rfl
    unfold bestStep
    rw [en]
    split
    · rename_i hc
      refine ⟨fun h => by simp at h, fun _ => ⟨by simp, rfl, rfl, rfl⟩, fun x hx => ?_⟩
      rcases List.mem_append.1 hx with hx | hx
      · obtain ⟨t1, t2⟩ := hT.top x hx
        simp only
        rcases hc with hc | ⟨hc, hc2⟩
        · exact ⟨by omega, fun h => by omega⟩
        · exact ⟨by omega, fun h => by have := t2 (by omega); omega⟩
      · rw [List.mem_singleton] at hx
        subst hx
        exact ⟨Int.le_refl _, fun _ => Int.le_refl _⟩
    · rename_i hc
      have hg : numOf P s ss lv N l ≤ st.g := by
        rcases Int.lt_or_le st.g (numOf P s ss lv N l) with g | g
        · exact absurd (Or.inl g) hc
        · exact g
      have hne : L ≠ [] := fun e => by have := (hT.none e).2; omega
      obtain ⟨m1, m2, m3, m4⟩ := hT.mem hne
      refine ⟨fun h => by simp at h, fun _ => ⟨List.mem_append_left _ m1, m2, m3, m4⟩, fun x hx => ?_⟩
      rcases List.mem_append.1 hx with hx | hx
      · exact hT.top x hx
      · rw [List.mem_singleton] at hx
        subst hx
        refine ⟨hg, fun he => ?_⟩
        rcases Int.lt_or_le (costV ss x) (costV ss st.best) with g | g
        · exact absurd (Or.inr ⟨he, g⟩) hc
        · exact g
theorem best_top' {P lv bu : Int} {ss : List S58} {s : Nat} (h : CampG P lv bu ss s) : Top P s ss lv (cwholeV P s).1 (choicesL ss bu) (bestOf P s ss lv (cwholeV P s).1 (choicesL ss bu)) :=
  best_top P s ss lv _ _ (fun l hl => (odds_ok h ((choices_mem ss bu l).1 hl)).p0)
end Go.Proofs.Yteigcddmbpfahaa.Pure
end
section
namespace Go.Proofs.Yteigcddmbpfahaa.Cn
set_option linter.unusedVariables false
set_option linter.unusedSimpArgs false
open Go.RowKit Go.Proofs.YteigcddmbpfahaaW.PrintWords Go.Proofs.YteigcddmbpfahaaW.PrintLast Go.Proofs.YteigcddmbpfahaaW.PrintMore Go.Proofs.Yteigcddmbpfahaa.Pc Go.Proofs.Yteigcddmbpfahaa.Pb

set_option maxHeartbeats 1000000 in
theorem rlong_calls (D lv bu : Int) (A : Option Addr) (c : Nat) (n : Nat) (s : Nat) (w : World) (g1 : 2 ≤ D) (g2 : D ≤ 1000) :
    Calls Try.prog 14 #[.agg #[.int .i64 D, .int .i64 lv, .int .i64 bu, .slice A n c], .int .i64 s] w fun e w' => e = .returned (.bool (!(cwholeV D s).2)) ∧ Below w.heap.size w w' := by
  obtain ⟨wa, hwa⟩ : ∃ wa, w.alloc (.cells #[.int .i64 D, .int .i64 lv, .int .i64 bu, .slice A n c] 43 (0, 0)) = wa := ⟨_, rfl⟩
  have hb := Blk.new w #[.int .i64 D, .int .i64 lv, .int .i64 bu, .slice A n c] 43
  rw [hwa] at hb
  have HB := Lib.hid (show Below w.heap.size w wa by rw [← hwa]; exact (Below.refl w.heap.size w).alloc (Nat.le_refl _) _)
  have y0 := hb.cell 0
  simp at y0
  clear hb
  by_cases h3 : 12 < s
  · rw [show cwholeV D s = (0, false) by simp [cwholeV, h3]]
    have h3' : (12 : Int) < (s : Int) := by omega
    go_enter Try.func14, Try.ntmps14
    go_wp2
    go_ret
    exact ⟨rfl, HB.out⟩
  · have hv : cwholeV D s = cwholeL D (3 * s) 1 := by simp [cwholeV, h3]
    have H0 := Lib.hid (show cwholeL D (3 * s - 0) 1 = cwholeV D s from hv.symm)
    generalize cwholeV D s = R at *
    have hb : ¬ (12 : Int) < (s : Int) := by omega
    have hs3 : (0 : Int) ≤ 3 * (s : Int) ∧ 3 * (s : Int) ≤ 36 := by omega
    clear hv
    go_enter Try.func14, Try.ntmps14
    go_wp2_with fail
    clear hwa
    go_loop [5, 6] (fun v5 i => ∃ (j : Nat) (n : Int), v5 = .int .i64 n ∧ i = .int .i64 j ∧ j ≤ 3 * s ∧ 1 ≤ n ∧ n ≤ 1152921504606846976 ∧ Hid (cwholeL D (3 * s - j) n = R)) (fun _ i => 3 * s - (intOf i).toNat)
    case atStart => exact ⟨0, 1, rfl, rfl, by omega, by omega, by omega, H0⟩
    case round =>
      obtain ⟨j, n, rfl, rfl, hj, n1, n2, HR⟩ := hrel
      by_cases hlt : j < 3 * s
      · have hR := HR.out
        rw [show 3 * s - j = (3 * s - (j + 1)) + 1 by omega, cwholeL] at hR
        have hlt' : (j : Int) < 3 * (s : Int) := by omega
        rcases Classical.em (1152921504606846976 / D < n) with hq | hq
        · rw [if_pos hq] at hR
          have hqb : decide (1152921504606846976 / D < n) = true := decide_eq_true hq
          have HR2 := Lib.hid hR
          clear HR hR hq hlt
          go_wp2
          go_ret
          exact ⟨by rw [← HR2.out]; rfl, HB.out⟩
        · rw [if_neg hq] at hR
          have HR2 := Lib.hid hR
          have hqb : decide (1152921504606846976 / D < n) = false := decide_eq_false hq
          have m1 : 1 ≤ n * D := by have := Int.mul_le_mul n1 (show 1 ≤ D by omega) (by omega) (by omega); simpa using this
          have m2 : n * D ≤ 1152921504606846976 := by
            have := Int.mul_le_of_le_ediv (show 0 < D by omega) (show n ≤ 1152921504606846976 / D by omega)
            exact this
          clear HR hR hq
          go_wp2
          go_round
          case rel => exact ⟨j + 1, _, rfl, by go_num, by omega, m1, m2, HR2⟩
          case measure => simp [intOf]; omega
      · have hR := HR.out
        rw [show 3 * s - j = 0 by omega, cwholeL] at hR
        have hlt' : ¬ (j : Int) < 3 * (s : Int) := by omega
        have HR2 := Lib.hid hR
        clear HR hR
        go_wp2
        go_ret
        exact ⟨by rw [← HR2.out]; rfl, HB.out⟩

def Camp0 (P lv bu : Int) (ss : List S58) : Prop :=
  2 ≤ P ∧ P ≤ 1000 ∧ 2 ≤ lv ∧ lv ≤ 300000 ∧ 0 ≤ bu ∧ bu ≤ 8000000 ∧ 1 ≤ ss.length ∧ ss.length ≤ 8 ∧ ∀ i : Nat, i < ss.length → 0 ≤ (rd_T58 ss i).f0 ∧ (rd_T58 ss i).f0 ≤ 1000000 ∧ 0 ≤ (rd_T58 ss i).f1 ∧ (rd_T58 ss i).f1 < (rd_T58 ss i).f2 ∧ (rd_T58 ss i).f2 ≤ P ∧ 0 ≤ (rd_T58 ss i).f3 ∧ (rd_T58 ss i).f3 ≤ P
instance (P lv bu : Int) (ss : List S58) : Decidable (Camp0 P lv bu ss) := by unfold Camp0; infer_instance
theorem camp0_G {P lv bu : Int} {ss : List S58} {s : Nat} (h : Camp0 P lv bu ss) (hw : (cwholeV P s).2 = true) : CampG P lv bu ss s := by
  obtain ⟨h1, h2, h3, h4, h5, h6, h7, h8, h9⟩ := h
  exact ⟨h1, h2, h3, h4, h5, h6, h7, h8, fun i hi => by obtain ⟨a, b, c, d, e, f, g⟩ := h9 i hi; omega, hw⟩
theorem in9 (a b c : Int) : overburdenref09_in.f a b c = some (decide (b ≤ a ∧ a ≤ c)) := by
  unfold overburdenref09_in.f
  by_cases h : b ≤ a
  · rw [if_pos (by omega)]; simp [h]
  · rw [if_neg (by omega)]; simp [h]
theorem in7 (a b c : Int) : overburdenref07_in.f a b c = some (decide (b ≤ a ∧ a ≤ c)) := by
  unfold overburdenref07_in.f
  by_cases h : b ≤ a
  · rw [if_pos (by omega)]; simp [h]
  · rw [if_neg (by omega)]; simp [h]
def SiteOk (P : Int) (ss : List S58) (i : Nat) : Prop := 0 ≤ (rd_T58 ss i).f0 ∧ (rd_T58 ss i).f0 ≤ 1000000 ∧ 0 ≤ (rd_T58 ss i).f1 ∧ (rd_T58 ss i).f1 < (rd_T58 ss i).f2 ∧ (rd_T58 ss i).f2 ≤ P ∧ 0 ≤ (rd_T58 ss i).f3 ∧ (rd_T58 ss i).f3 ≤ P
theorem rcamp_go (P lv bu : Int) (ss : List S58) (h8 : ss.length ≤ 8) : ∀ (d i k : Nat), i + d = ss.length → d < k →
    ∃ r, overburdenref09_Campaign.l0 k i P lv bu ss = some r ∧ (r = true ↔ ∀ j : Nat, i ≤ j → j < ss.length → SiteOk P ss j) := by
  intro d
  induction d with
  | zero =>
    intro i k hi hk
    obtain ⟨k, rfl⟩ : ∃ m, k = m + 1 := ⟨k - 1, by omega⟩
    refine ⟨true, ?_, ⟨fun _ j h1 h2 => by omega, fun _ => rfl⟩⟩
    rw [overburdenref09_Campaign.l0, if_neg (by omega)]
  | succ d ih =>
    intro i k hi hk
    obtain ⟨k, rfl⟩ : ∃ m, k = m + 1 := ⟨k - 1, by omega⟩
    have hno : ∀ P' : Prop, ¬ SiteOk P ss i → (false = true ↔ ∀ j : Nat, i ≤ j → j < ss.length → SiteOk P ss j) := fun _ hn => ⟨fun h => (by cases h), fun h => absurd (h i (Nat.le_refl _) (by omega)) hn⟩
    rw [overburdenref09_Campaign.l0, if_pos (by omega), if_pos (by omega), in9, wrap_succ (by omega)]
    simp only [Option.bind_some]
    by_cases c0 : 0 ≤ (rd_T58 ss (i : Int)).f0 ∧ (rd_T58 ss (i : Int)).f0 ≤ 1000000
    · rw [if_pos (by simpa using c0)]
      by_cases c1 : (rd_T58 ss (i : Int)).f1 < 0
      · rw [if_pos c1]; exact ⟨false, rfl, hno True (fun h => by have := h.2.2.1; omega)⟩
      · rw [if_neg c1]
        by_cases c2 : (rd_T58 ss (i : Int)).f1 ≥ (rd_T58 ss (i : Int)).f2
        · rw [if_pos c2]; exact ⟨false, rfl, hno True (fun h => by have := h.2.2.2.1; omega)⟩
        · rw [if_neg c2]
          by_cases c3 : (rd_T58 ss (i : Int)).f2 > P
          · rw [if_pos c3]; exact ⟨false, rfl, hno True (fun h => by have := h.2.2.2.2.1; omega)⟩
          · rw [if_neg c3, in9]
            simp only [Option.bind_some]
            by_cases c4 : 0 ≤ (rd_T58 ss (i : Int)).f3 ∧ (rd_T58 ss (i : Int)).f3 ≤ P
            · rw [if_pos (by simpa using c4)]
              obtain ⟨r, h1, h2⟩ := ih (i + 1) k (by omega) (by omega)
              refine ⟨r, h1, h2.trans ⟨fun h j hj hl => ?_, fun h j hj hl => h j (by omega) hl⟩⟩
              rcases Nat.eq_or_lt_of_le hj with e | e
              · subst e; exact ⟨c0.1, c0.2, by omega, by omega, by omega, c4.1, c4.2⟩
              · exact h j (by omega) hl
            · rw [if_neg (by simpa using c4)]; exact ⟨false, rfl, hno True (fun h => c4 ⟨h.2.2.2.2.2.1, h.2.2.2.2.2.2⟩)⟩
    · rw [if_neg (by simpa using c0)]; exact ⟨false, rfl, hno True (fun h => c0 ⟨h.1, h.2.1⟩)⟩
theorem bool_dec {r : Bool} {p : Prop} [Decidable p] (h : r = true ↔ p) : r = decide p := by
  cases r
  · symm; rw [decide_eq_false_iff_not]; intro hp; have := h.2 hp; cases this
  · symm; rw [decide_eq_true_eq]; exact h.1 rfl
theorem rcamp_f (P lv bu : Int) (ss : List S58) (h8 : ss.length ≤ 8) : overburdenref09_Campaign.f 20 P lv bu ss = some (decide (Camp0 P lv bu ss)) := by
  have hj : ∀ b : Bool, overburdenref09_Campaign.j0 20 b P lv bu ss = if b = true then some false else overburdenref09_Campaign.l0 19 ((0 : Nat) : Int) P lv bu ss := fun b => by rw [overburdenref09_Campaign.j0]; rfl
  obtain ⟨r, h1, h2⟩ := rcamp_go P lv bu ss h8 ss.length 0 19 (Nat.zero_add _) (by omega)
  unfold overburdenref09_Campaign.f overburdenref07_Parts.f
  rw [in7]
  simp only [Option.bind_some, in9, hj, if_true]
  by_cases a1 : 2 ≤ P ∧ P ≤ 1000
  · rw [if_pos (by simpa using a1)]
    by_cases a2 : 2 ≤ lv ∧ lv ≤ 300000
    · rw [if_pos (by simpa using a2)]
      by_cases a3 : 0 ≤ bu ∧ bu ≤ 8000000
      · rw [if_pos (by simpa using a3)]
        by_cases a4 : (1 : Int) ≤ (ss.length : Int) ∧ (ss.length : Int) ≤ 8
        · rw [if_neg (by simpa using a4), h1]
          congr 1
          refine bool_dec (h2.trans ?_)
          constructor
          · intro h
            exact ⟨a1.1, a1.2, a2.1, a2.2, a3.1, a3.2, by omega, by omega, fun i hi => h i (Nat.zero_le _) hi⟩
          · rintro ⟨_, _, _, _, _, _, _, _, h⟩ j _ hl
            exact h j hl
        · rw [if_pos (by rw [decide_eq_false a4]; rfl)]
          congr 1
          exact bool_dec ⟨fun h => (by cases h), fun h => absurd ⟨by have := h.2.2.2.2.2.2.1; omega, by have := h.2.2.2.2.2.2.2.1; omega⟩ a4⟩
      · rw [if_neg (by simpa using a3)]
        congr 1
        exact bool_dec ⟨fun h => (by cases h), fun h => absurd ⟨h.2.2.2.2.1, h.2.2.2.2.2.1⟩ a3⟩
    · rw [if_neg (by simpa using a2)]
      congr 1
      exact bool_dec ⟨fun h => (by cases h), fun h => absurd ⟨h.2.2.1, h.2.2.2.1⟩ a2⟩
  · rw [if_neg (by simpa using a1)]
    congr 1
    exact bool_dec ⟨fun h => (by cases h), fun h => absurd ⟨h.1, h.2.1⟩ a1⟩

def UpFrom (ss : List S58) (l : List Int) (j : Nat) : Prop := ∀ i : Nat, j ≤ i → (h : i < l.length) → (0 ≤ l[i] ∧ l[i] < ss.length) ∧ (∀ h0 : 0 < i, l[i - 1]'(by omega) < l[i])
theorem rcost_go {P lv bu : Int} {ss : List S58} (h : Camp0 P lv bu ss) {l : List Int} (hl : InS ss l) (h100 : l.length ≤ 100) : ∀ (d j k : Nat) (n : Int), j + d = l.length → d < k → 0 ≤ n → n ≤ 1000000 * (j : Int) →
    overburdenref09_Cost.l0 k l n j P lv bu ss = some (n + costV ss (l.drop j)) := by
  intro d
  induction d with
  | zero =>
    intro j k n hj hk _ _
    obtain ⟨k, rfl⟩ : ∃ m, k = m + 1 := ⟨k - 1, by omega⟩
    rw [overburdenref09_Cost.l0, if_neg (by omega), List.drop_of_length_le (by omega)]
    simp [costV]
  | succ d ih =>
    intro j k n hj hk h0 h1
    obtain ⟨k, rfl⟩ : ∃ m, k = m + 1 := ⟨k - 1, by omega⟩
    have hlt : j < l.length := by omega
    obtain ⟨g0, g1⟩ := hl _ (List.getElem_mem hlt)
    obtain ⟨m, hm⟩ := Int.eq_ofNat_of_zero_le g0
    obtain ⟨_, _, _, _, _, _, _, _, h9⟩ := h
    have c := h9 m (by omega)
    rw [← hm] at c
    rw [overburdenref09_Cost.l0, if_pos (by omega), if_pos (by omega), rd_drop hlt, if_pos g0, if_pos g1, wrap_succ (by omega), wrap_add h0 h1 c.1 c.2.1 (by omega),
      ih (j + 1) k _ (by omega) (by omega) (by omega) (by push_cast; omega), List.drop_eq_getElem_cons hlt]
    simp only [costV, List.map_cons, List.sum_cons, Option.some.injEq]
    omega
theorem rcost_f {P lv bu : Int} {ss : List S58} (h : Camp0 P lv bu ss) {l : List Int} (hl : InS ss l) (h100 : l.length ≤ 100) {k : Nat} (hk : l.length < k) : overburdenref09_Cost.f k P lv bu ss l = some (costV ss l) := by
  have := rcost_go h hl h100 l.length 0 k 0 (Nat.zero_add _) hk (Int.le_refl _) (Int.le_refl _)
  rw [Int.zero_add, List.drop_zero] at this
  exact this
theorem rchoice_go {P lv bu : Int} {ss : List S58} (h : Camp0 P lv bu ss) {l : List Int} (h100 : l.length ≤ 50) : ∀ (d j k : Nat), j + d = l.length → d + l.length + 3 < k → (∀ i : Nat, i < j → (hi : i < l.length) → 0 ≤ l[i] ∧ l[i] < ss.length) →
    ∃ r, overburdenref09_Choice.l0 k l j P lv bu ss = some r ∧ (r = true ↔ UpFrom ss l j ∧ costV ss l ≤ bu) := by
  intro d
  induction d with
  | zero =>
    intro j k hj hk hpre
    obtain ⟨k, rfl⟩ : ∃ m, k = m + 1 := ⟨k - 1, by omega⟩
    have hin : InS ss l := fun x hx => by
      obtain ⟨i, hi, rfl⟩ := List.mem_iff_getElem.1 hx
      exact hpre i (by omega) hi
    refine ⟨decide (costV ss l ≤ bu), ?_, ?_⟩
    · rw [overburdenref09_Choice.l0, if_neg (by omega), rcost_f h hin (by omega) (by omega)]
      rfl
    · rw [decide_eq_true_eq]
      exact ⟨fun hc => ⟨fun i h1 h2 => by omega, hc⟩, fun hc => hc.2⟩
  | succ d ih =>
    intro j k hj hk hpre
    obtain ⟨k, rfl⟩ : ∃ m, k = m + 1 := ⟨k - 1, by omega⟩
    have hlt : j < l.length := by omega
    have hno : ¬ UpFrom ss l j → (false = true ↔ UpFrom ss l j ∧ costV ss l ≤ bu) := fun hn => ⟨fun h => (by cases h), fun h => absurd h.1 hn⟩
    have hs1 : 1 ≤ ss.length := h.2.2.2.2.2.2.1
    have hs8 : ss.length ≤ 8 := h.2.2.2.2.2.2.2.1
    rw [overburdenref09_Choice.l0, if_pos (by omega), if_pos (by omega), rd_drop hlt, wrap_predN (by omega) (by omega), in9, wrap_succ (by omega)]
    simp only [Option.bind_some]
    by_cases c0 : 0 ≤ l[j] ∧ l[j] ≤ ((ss.length - 1 : Nat) : Int)
    · rw [if_pos (by simpa using c0)]
      have hin : 0 ≤ l[j] ∧ l[j] < ss.length := by omega
      have hnext := ih (j + 1) k (by omega) (by omega) (fun i hi hi2 => by
        rcases Nat.eq_or_lt_of_le (Nat.le_of_lt_succ hi) with e | e
        · subst e; exact hin
        · exact hpre i e hi2)
      obtain ⟨r, h1, h2⟩ := hnext
      by_cases g0 : 0 < j
      · rw [if_pos (by omega), wrap_predN g0 (by omega), if_pos (by omega), if_pos (by omega), rd_drop (show j - 1 < l.length by omega)]
        by_cases c1 : l[j] ≤ l[j - 1]'(by omega)
        · rw [if_pos c1]
          exact ⟨false, rfl, hno (fun hu => by have := (hu j (Nat.le_refl _) hlt).2 g0; omega)⟩
        · rw [if_neg c1]
          refine ⟨r, h1, h2.trans ⟨fun hu => ⟨fun i hi hi2 => ?_, hu.2⟩, fun hu => ⟨fun i hi hi2 => hu.1 i (by omega) hi2, hu.2⟩⟩⟩
          rcases Nat.eq_or_lt_of_le hi with e | e
          · subst e; exact ⟨hin, fun _ => by omega⟩
          · exact hu.1 i e hi2
      · rw [if_neg (by omega)]
        refine ⟨r, h1, h2.trans ⟨fun hu => ⟨fun i hi hi2 => ?_, hu.2⟩, fun hu => ⟨fun i hi hi2 => hu.1 i (by omega) hi2, hu.2⟩⟩⟩
        rcases Nat.eq_or_lt_of_le hi with e | e
        · subst e; exact ⟨hin, fun h0 => by omega⟩
        · exact hu.1 i e hi2
    · rw [if_neg (by simpa using c0)]
      exact ⟨false, rfl, hno (fun hu => by have := (hu j (Nat.le_refl _) hlt).1; omega)⟩
theorem rchoice_f {P lv bu : Int} {ss : List S58} (h : Camp0 P lv bu ss) {l : List Int} (h100 : l.length ≤ 50) : ∃ r, overburdenref09_Choice.f 200 P lv bu ss l = some r ∧ (r = true ↔ ChoiceG bu ss l) := by
  unfold overburdenref09_Choice.f
  rw [in9]
  simp only [Option.bind_some]
  by_cases c : (1 : Int) ≤ (l.length : Int) ∧ (l.length : Int) ≤ 3
  · rw [if_pos (decide_eq_true c)]
    obtain ⟨r, h1, h2⟩ := rchoice_go h h100 l.length 0 200 (Nat.zero_add _) (by omega) (fun i hi _ => by omega)
    refine ⟨r, h1, h2.trans ⟨fun hu => ⟨by omega, by omega, fun x hx => ?_, fun i h0 hi => (hu.1 i (Nat.zero_le _) hi).2 h0, hu.2⟩, fun hc => ⟨fun i _ hi => ⟨hc.inS _ (List.getElem_mem hi), fun h0 => hc.up i h0 hi⟩, hc.cost⟩⟩⟩
    obtain ⟨i, hi, rfl⟩ := List.mem_iff_getElem.1 hx
    exact (hu.1 i (Nat.zero_le _) hi).1
  · rw [if_neg (by simpa using c)]
    exact ⟨false, rfl, ⟨fun h => (by cases h), fun hc => absurd ⟨by have := hc.n1; omega, by have := hc.n3; omega⟩ c⟩⟩
end Go.Proofs.Yteigcddmbpfahaa.Cn
end
section
namespace Go.Proofs.Yteigcddmbpfahaa.Pure
set_option linter.unusedVariables false
open Go.RowKit Go.Proofs.YteigcddmbpfahaaW.PrintWords Go.Proofs.YteigcddmbpfahaaW.PrintLast Go.Proofs.YteigcddmbpfahaaW.PrintMore
open Go.Proofs.Yteigcddmbpfahaa.Cn Go.Proofs.Yteigcddmbpfahaa.Pc
theorem run0 (D A : Int) (hA : 2 ≤ A) : ∀ (l : List Bool) (st : KS), st.out = false → st.c = 1048576 → hitsN l ≤ 0 → (run1 D A 0 l st).out = false ∧ (run1 D A 0 l st).c = 1048576
  | [], st, h1, h2, _ => ⟨h1, h2⟩
  | x :: l, st, h1, h2, h3 => by
    have hn : ∀ l : List Bool, 0 ≤ hitsN l := by
      intro l
      induction l with
      | nil => simp [hitsN]
      | cons y l ih => rw [hitsN]; cases y <;> simp [b2i] <;> omega
    have hl := hn l
    rw [hitsN] at h3
    cases x
    · simp [b2i] at h3
      rw [run1]
      have hm : moveV false D st.n st.h ((0 : Nat) : Int) st.c = st.c := by simp [moveV, missV]
      refine run0 D A hA l _ ?_ ?_ h3
      · unfold KS.step
        rw [h1, hm, h2]
        simp
        omega
      · unfold KS.step
        rw [h1, hm, h2]
        simp
    · simp [b2i] at h3; omega
theorem above_hit {D lo hi : Nat} {A : Int} (hA : 2 ≤ A) {l : List Bool} (h : (decideS (runS D A l Cn.start) D lo hi).1 = 3) : 1 ≤ hitsN l := by
  rcases Int.lt_or_le (hitsN l) 1 with g | g
  · have h0 := (run0 D A hA l (Cn.start 0) rfl rfl (by omega)).1
    have hr : rightT D lo hi A 0 l = true := by
      rw [rightT, Bool.or_eq_true]
      right
      rw [Bool.and_eq_true, decide_eq_true_eq, beq_iff_eq]
      exact ⟨Nat.zero_le _, h⟩
    have := right_out (Nat.zero_le _) l hr
    rw [h0] at this
    cases this
  · exact g
def tl1 (P : Int) (s : Nat) (ss : List S58) (i : Int) : Int := sumL s (tF P (rd_T58 ss i).f3 1)
theorem tl1_bd {P lv bu : Int} {ss : List S58} {s : Nat} (h : CampG P lv bu ss s) {LV i : Int} (h0 : 0 ≤ i) (h1 : i < ss.length) (l0 : 2 ≤ LV) : abv P s ss LV false i ≤ tl1 P s ss i ∧ 0 ≤ tl1 P s ss i ∧ tl1 P s ss i ≤ pw P s := by
  obtain ⟨r0, r1⟩ := rate_bd h h0 h1 false
  have p2 := h.p2
  obtain ⟨D, rfl⟩ := Int.eq_ofNat_of_zero_le (show 0 ≤ P by omega)
  have er : rateOf ss false i = (rd_T58 ss i).f3 := rfl
  unfold abv tl1
  rw [Int.toNat_natCast]
  rw [er] at r0 r1 ⊢
  refine ⟨?_, ?_, ?_⟩
  · apply sumL_le
    intro l _
    unfold cF tF
    have w0 := wT_nn r0 r1 l
    split
    · rename_i hv
      rw [if_pos (above_hit l0 hv)]
      exact Int.le_refl _
    · split
      · exact w0
      · exact Int.le_refl _
  · have z := sumL_mul 0 s (wT D (rd_T58 ss i).f3)
    simp at z
    have := sumL_le s (fun _ => 0) (tF D (rd_T58 ss i).f3 1) (fun l _ => tF_nn r0 r1 l)
    omega
  · have := sumL_le s (tF D (rd_T58 ss i).f3 1) (wT D (rd_T58 ss i).f3) (fun l _ => tF_le r0 r1 l)
    rwa [sumL_w] at this
theorem hits_nn : ∀ l : List Bool, 0 ≤ hitsN l
  | [] => by simp [hitsN]
  | y :: l => by have := hits_nn l; rw [hitsN]; cases y <;> simp [b2i] <;> omega
theorem tail_f {P lv bu : Int} {ss : List S58} {s : Nat} (h : CampG P lv bu ss s) {i : Int} (h0 : 0 ≤ i) (h1 : i < ss.length) :
    count_Tail.f s P (rd_T58 ss i).f3 1 = some (tl1 P s ss i, 0) ∧ count_Tail.f s P (rd_T58 ss i).f3 0 = some (pw P s, 0) := by
  obtain ⟨r0, r1⟩ := rate_bd h h0 h1 false
  obtain ⟨w1, w2, w3, w4, w5⟩ := camp_pw1 h
  have er : rateOf ss false i = (rd_T58 ss i).f3 := rfl
  rw [er] at r0 r1
  have p2 := h.p2
  have p3 := h.p3
  have hok : ∀ x : Int, 0 ≤ x → x ≤ 1 → tailOk s P (rd_T58 ss i).f3 x = true := fun x x0 x1 => by
    simp [tailOk, withinB]; omega
  have key : ∀ x : Int, 0 ≤ x → x ≤ 1 → count_Tail.f s P (rd_T58 ss i).f3 x = some (sumL s (tF P (rd_T58 ss i).f3 x), 0) := fun x x0 x1 => by
    unfold count_Tail.f
    rw [w5]
    simp only [if_true]
    rw [if_pos (hok x x0 x1), Int.toNat_natCast, tail_T r0 r1 (by omega) (by omega) w2 (2 ^ s) (Nat.le_refl _), sumN_L s (tF P (rd_T58 ss i).f3 x)]
  refine ⟨key 1 (by omega) (by omega), ?_⟩
  rw [key 0 (by omega) (by omega)]
  have : sumL s (tF P (rd_T58 ss i).f3 0) = sumL s (wT P (rd_T58 ss i).f3) := sumL_congr s _ _ (fun l _ => by unfold tF; rw [if_pos (hits_nn l)])
  rw [this, sumL_w]
theorem prodS_mono {f g : Int → Int} : ∀ l : List Int, (∀ i ∈ l, 0 ≤ f i ∧ f i ≤ g i) → 0 ≤ prodS f l ∧ prodS f l ≤ prodS g l
  | [], _ => by simp [prodS]
  | i :: l, h => by
    obtain ⟨a, b⟩ := prodS_mono l (fun j hj => h j (List.mem_cons_of_mem _ hj))
    obtain ⟨c, d⟩ := h i List.mem_cons_self
    rw [prodS, prodS]
    exact ⟨Int.mul_nonneg c a, mul_le_nn d b a (by omega)⟩
def noHit (P : Int) (s : Nat) (ss : List S58) (l : List Int) : Int := prodS (fun i => pw P s - tl1 P s ss i) l
theorem hits_law {P lv bu : Int} {ss : List S58} {s : Nat} (h : CampG P lv bu ss s) {l : List Int} (hl : ChoiceG bu ss l) :
    oddsA P s ss lv false l = pw (pw P s) l.length ∧ oddsW P s ss lv false l ≤ pw (pw P s) l.length - noHit P s ss l ∧ 0 ≤ oddsW P s ss lv false l := by
  obtain ⟨hA, hW⟩ := odds_T h false hl.n1 hl.n3 hl.inS
  have hlv := h.l2
  have hL : 2 ≤ lv * (l.length : Int) := by
    have h1 := Int.mul_le_mul hlv (show (1 : Int) ≤ l.length by have := hl.n1; omega) (by omega) (by omega)
    omega
  refine ⟨hA, ?_, (odds_ok h hl).w0⟩
  rw [hW]
  have := (prodS_mono (f := fun i => pw P s - tl1 P s ss i) (g := fun i => pw P s - abv P s ss (lv * (l.length : Int)) false i) l (fun i hi => by
    obtain ⟨a, b, c⟩ := tl1_bd h (hl.inS i hi).1 (hl.inS i hi).2 hL
    exact ⟨by omega, by omega⟩)).2
  unfold noHit silS
  omega

def lessV (aw aa bw ba : Int) : Bool := if aa < ba then decide (aw * (ba / aa) < bw) else decide (aw < bw * (aa / ba))
theorem pw_div {D : Int} (hD : 1 ≤ D) {a b : Nat} (h : a ≤ b) : pw D b / pw D a = pw D (b - a) := by
  have hp := pw_pos hD a
  have e : pw D b = pw D a * pw D (b - a) := by rw [← pw_add]; congr 1; omega
  rw [e, Int.mul_ediv_cancel_left _ (by omega)]
theorem less_num {D : Int} (hD : 1 ≤ D) {na nb : Nat} (ha : na ≤ 3) (hb : nb ≤ 3) (x y : Int) :
    lessV x (pw D na) y (pw D nb) = true ↔ x * pw D (3 - na) < y * pw D (3 - nb) := by
  have pa := pw_pos hD na
  have pb := pw_pos hD nb
  unfold lessV
  rcases Nat.lt_or_ge na nb with g | g
  · by_cases hlt : pw D na < pw D nb
    · rw [if_pos hlt, decide_eq_true_eq, pw_div hD (by omega)]
      have e : pw D (3 - na) = pw D (nb - na) * pw D (3 - nb) := by rw [← pw_add]; congr 1; omega
      rw [e, ← Int.mul_assoc]
      have hp := pw_pos hD (3 - nb)
      exact ⟨fun h => Int.mul_lt_mul_of_pos_right h (by omega), fun h => Int.lt_of_mul_lt_mul_right h (by omega)⟩
    · have hm := pw_mono hD (show na ≤ nb by omega)
      have heq : pw D na = pw D nb := by omega
      have h1 : D = 1 := by
        rcases Int.lt_or_eq_of_le hD with q | q
        · exfalso
          have e : pw D nb = pw D na * pw D (nb - na) := by rw [← pw_add]; congr 1; omega
          obtain ⟨z, hz⟩ : ∃ z, nb - na = z + 1 := ⟨nb - na - 1, by omega⟩
          rw [hz, pw] at e
          have hz1 := pw_pos hD z
          have h2 : 2 ≤ D * pw D z := by have := Int.mul_le_mul (show 2 ≤ D by omega) hz1 (by omega) (by omega); omega
          have h3 := Int.mul_le_mul_of_nonneg_left h2 (show 0 ≤ pw D na by omega)
          omega
        · exact q.symm
      subst h1
      have one : ∀ n, pw 1 n = 1 := fun n => by induction n with
        | zero => rfl
        | succ n ih => rw [pw, ih]; rfl
      rw [one, one, one, one]
      simp
  · have hm := pw_mono hD g
    rw [if_neg (by omega), decide_eq_true_eq, pw_div hD g]
    have e : pw D (3 - nb) = pw D (na - nb) * pw D (3 - na) := by rw [← pw_add]; congr 1; omega
    rw [e, ← Int.mul_assoc]
    have hp := pw_pos hD (3 - na)
    exact ⟨fun h => Int.mul_lt_mul_of_pos_right h (by omega), fun h => Int.lt_of_mul_lt_mul_right h (by omega)⟩
theorem numOf_T {P lv bu : Int} {ss : List S58} {s : Nat} (h : CampG P lv bu ss s) {l : List Int} (hl : ChoiceG bu ss l) : numOf P s ss lv (cwholeV P s).1 l = oddsW P s ss lv false l * pw (pw P s) (3 - l.length) := by
  obtain ⟨w1, w2, w3, w4, w5⟩ := camp_pw1 h
  obtain ⟨hA, hW⟩ := odds_T h false hl.n1 hl.n3 hl.inS
  unfold numOf
  rw [hA, w4, pw_div w1 hl.n3]
theorem less_T {P lv bu : Int} {ss : List S58} {s : Nat} (h : CampG P lv bu ss s) {l k : List Int} (hl : ChoiceG bu ss l) (hk : ChoiceG bu ss k) :
    lessV (oddsW P s ss lv false l) (oddsA P s ss lv false l) (oddsW P s ss lv false k) (oddsA P s ss lv false k) = true ↔ numOf P s ss lv (cwholeV P s).1 l < numOf P s ss lv (cwholeV P s).1 k := by
  obtain ⟨w1, w2, w3, w4, w5⟩ := camp_pw1 h
  rw [(odds_T h false hl.n1 hl.n3 hl.inS).1, (odds_T h false hk.n1 hk.n3 hk.inS).1, less_num w1 hl.n3 hk.n3, numOf_T h hl, numOf_T h hk]
end Go.Proofs.Yteigcddmbpfahaa.Pure
end
