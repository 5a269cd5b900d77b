/- Contracts of package count: which rates are kept, the verdict, when to stop, the capital. -/
import Derived.Test.YtgofaifmbjallaaC1
import Derived.Deep.RegionHeld3

namespace Go.Proofs.Ytgofaifmbjallaa.Cn
open Go.RowKit Go.Proofs.YtgofaifmbjallaaW.PrintWords Go.Proofs.YtgofaifmbjallaaW.PrintLast Go.Proofs.YtgofaifmbjallaaW.PrintMore

/-! #### struct type 65 -/
structure S65 where
  f0 : Int
  f1 : Int
def z65 : S65 := ⟨(0 : Int), (0 : Int)⟩
def k65 : Kd S65 := Kd.iso (Kd.pair (Kd.int .i64) (Kd.int .i64)) (fun x : S65 => (x.f0, x.f1))
theorem k65_open {w : World} {x : S65} {cs : List Value} (h : k65.K w x cs) : cs = [.int .i64 x.f0, .int .i64 x.f1] := by
  obtain ⟨_, _, rfl, rfl, rfl⟩ := h
  exact rfl
theorem k65_openM {w : World} {base : Nat} {ok : Nat → Prop} {x : S65} {cs : List Value} (h : k65.M w base ok x cs) : cs = [.int .i64 x.f0, .int .i64 x.f1] := by
  obtain ⟨_, _, rfl, rfl, rfl⟩ := h
  exact rfl
theorem k65_mk (w : World) (x : S65)  : k65.K w x [.int .i64 x.f0, .int .i64 x.f1] := ⟨[.int .i64 x.f0], [.int .i64 x.f1], rfl, rfl, rfl⟩
theorem k65_mkM (w : World) (base : Nat) (ok : Nat → Prop) (x : S65)  : k65.M w base ok x [.int .i64 x.f0, .int .i64 x.f1] := ⟨[.int .i64 x.f0], [.int .i64 x.f1], rfl, rfl, rfl⟩
def rd_T65 (xs : List S65) (i : Int) : S65 := xs.getD i.toNat z65
theorem at_T65 {w : World} {A : Option Addr} {n : Nat} {xs : List S65} (h : Kd.C k65 w A n xs) (i : Int) (h0 : 0 ≤ i) (h1 : i < n) : ∃ ad , A = some ad ∧ w.cell? (ad.add (i.toNat * 2)) = some (.int .i64 (rd_T65 xs i).f0) ∧ w.cell? ⟨(ad.add (i.toNat * 2)).block, (ad.add (i.toNat * 2)).off + 1, none⟩ = some (.int .i64 (rd_T65 xs i).f1) := by
  obtain ⟨ad, c, e, _, hK, hc0⟩ := Kd.C_get h z65 i h0 h1
  have hc : ∀ j u, c[j]? = some u → w.cell? (ad.add (i.toNat * 2 + j)) = some u := hc0
  obtain rfl := k65_open hK
  exact ⟨ad, e, hc 0 _ rfl, by rw [← add_field _ _ 1 (by omega)]; exact hc 1 _ rfl⟩
theorem info_span : (Try.prog.info? 65).map (fun i => (i.zero, i.size, i.bytes)) = some (some (.agg #[.int .i64 0, .int .i64 0]), 2, 16) := by kernel_rfl

theorem spans1_calls (b1 B L o cap D k : Nat) (A kept : Int) (S : Nat → KS) (w : World) (h1 : w.cell? ⟨b1, 0, none⟩ = some (.pointer (some ⟨B, 0, none⟩))) (hS : BetsAt w B L o cap D A kept S) (hk : k ≤ D) (hD : D ≤ 1000) :
    Calls Try.prog 78 #[.int .i64 k, .pointer (some ⟨b1, 0, none⟩)] w fun e w' => e = .returned (.bool (!(S k).out)) ∧ w = w' := by
  have c1 := hS.cells.2.2.1 k hk
  have bd2 : (0 : Int) ≤ (k : Int) ∧ (k : Int) < 1001 := ⟨by omega, by omega⟩
  clear hS
  go_enter Try.func78, Try.ntmps78
  go_wp2
  go_ret
  exact ⟨rfl, rfl⟩

theorem spans2_calls (low high : Int) (w : World) :
    Calls Try.prog 79 #[.int .i64 low, .int .i64 high] w fun e w' => e = .returned (.agg #[.int .i64 low, .int .i64 high]) ∧ Below w.heap.size w w' := by
  go_enter Try.func79, Try.ntmps79
  go_wp2
  refine bodyPost_ret (v := .agg #[.int .i64 low, .int .i64 high]) (by simp [results, Try.results79, go_sem]) rfl ⟨rfl, ?_⟩
  exact (Below.refl _ _).alloc (Nat.le_refl _) _

/-- how far a run goes on, at most so many numbers -/
def ext (f : Nat → Bool) (n : Nat) : Nat → Nat → Nat
  | 0, h => h
  | d + 1, h => if h + 1 < n ∧ f (h + 1) = true then ext f n d (h + 1) else h
/-- runs of numbers from some number on -/
def runsL (f : Nat → Bool) (n : Nat) : Nat → Nat → List S65
  | 0, _ => []
  | d + 1, low => if low < n then (if f low = true then ⟨low, ext f n n low⟩ :: runsL f n d (ext f n n low + 1) else runsL f n d (low + 1)) else []
theorem ext_ge (f : Nat → Bool) (n : Nat) : ∀ d h, h ≤ ext f n d h
  | 0, h => Nat.le_refl _
  | d + 1, h => by simp only [ext]; split; have := ext_ge f n d (h + 1); omega; exact Nat.le_refl _
theorem ext_lt (f : Nat → Bool) (n : Nat) : ∀ d h, h < n → ext f n d h < n
  | 0, h, hh => hh
  | d + 1, h, hh => by simp only [ext]; split; (rename_i c; exact ext_lt f n d (h + 1) c.1); exact hh
theorem ext_more (f : Nat → Bool) (n : Nat) : ∀ d d' h, n ≤ h + 1 + d → n ≤ h + 1 + d' → ext f n d h = ext f n d' h
  | 0, 0, h, _, _ => rfl
  | 0, d' + 1, h, h1, _ => by simp only [ext]; rw [if_neg (by omega)]
  | d + 1, 0, h, _, h1 => by simp only [ext]; rw [if_neg (by omega)]
  | d + 1, d' + 1, h, h1, h2 => by simp only [ext]; split; exact ext_more f n d d' (h + 1) (by omega) (by omega); rfl
theorem runsL_more (f : Nat → Bool) (n : Nat) : ∀ d d' low, n ≤ low + d → n ≤ low + d' → runsL f n d low = runsL f n d' low
  | 0, 0, _, _, _ => rfl
  | 0, d' + 1, low, h1, _ => by simp only [runsL]; rw [if_neg (by omega)]
  | d + 1, 0, low, _, h1 => by simp only [runsL]; rw [if_neg (by omega)]
  | d + 1, d' + 1, low, h1, h2 => by
    simp only [runsL]
    split
    · split
      · have := ext_ge f n n low
        rw [runsL_more f n d d' _ (by omega) (by omega)]
      · exact runsL_more f n d d' (low + 1) (by omega) (by omega)
    · rfl

theorem ext_step (f : Nat → Bool) (n h : Nat) (hn : 1 ≤ n) : ext f n n h = if h + 1 < n ∧ f (h + 1) = true then ext f n n (h + 1) else h := by
  obtain ⟨m, rfl⟩ : ∃ m, n = m + 1 := ⟨n - 1, by omega⟩
  conv => lhs; rw [ext]
  split
  · exact ext_more f (m + 1) m (m + 1) (h + 1) (by omega) (by omega)
  · rfl
theorem runsL_skip {f : Nat → Bool} {n low : Nat} (h : low < n) (hf : f low = false) : runsL f n (n - low) low = runsL f n (n - (low + 1)) (low + 1) := by
  rw [show n - low = (n - (low + 1)) + 1 by omega]
  simp only [runsL]
  rw [if_pos h, hf, if_neg (by simp)]
theorem runsL_take {f : Nat → Bool} {n low : Nat} (h : low < n) (hf : f low = true) : runsL f n (n - low) low = ⟨low, ext f n n low⟩ :: runsL f n (n - (ext f n n low + 1)) (ext f n n low + 1) := by
  rw [show n - low = (n - (low + 1)) + 1 by omega]
  simp only [runsL]
  rw [if_pos h, if_pos hf]
  have := ext_ge f n n low
  rw [runsL_more f n (n - (low + 1)) (n - (ext f n n low + 1)) _ (by omega) (by omega)]
theorem runsL_end {f : Nat → Bool} {n low : Nat} (h : n ≤ low) (d : Nat) : runsL f n d low = [] := by
  cases d with
  | zero => rfl
  | succ d => simp only [runsL]; rw [if_neg (by omega)]

set_option maxRecDepth 100000 in
set_option maxHeartbeats 1000000 in
theorem runs_any (b1 D : Nat) (f : Nat → Bool) (w : World) (hD : D ≤ 1000)
    (hc : ∀ (k : Nat) (w2 : World), k ≤ D → Below w.heap.size w w2 → Calls Try.prog 78 #[.int .i64 k, .pointer (some ⟨b1, 0, none⟩)] w2 fun e w' => e = .returned (.bool (f k)) ∧ w2 = w') :
    Calls Try.prog 77 #[.int .i64 ((D : Int) + 1), .func (.func 78) #[] #[.pointer (some ⟨b1, 0, none⟩)], .func (.func 79) #[] #[]] w fun e w' =>
      ∃ v, e = .returned v ∧ Kd.R k65 65 w' w.heap.size (fun _ => True) v (runsL f (D + 1) (D + 1) 0) ∧ Below w.heap.size w w' := by
  obtain ⟨R0, hR0⟩ : ∃ R0, runsL f (D + 1) (D + 1) 0 = R0 := ⟨_, rfl⟩
  rw [hR0]
  have H0 := Lib.hid hR0
  have HC := Lib.hid hc
  clear hc hR0
  go_enter Try.func77, Try.ntmps77
  go_wp2_with fail
  go_loopw [7, 8] (fun v7 v8 wr => ∃ (k : Nat) (xs : List S65), v8 = .int .i64 k ∧ k ≤ D + 2 ∧ Hid (Kd.R k65 65 wr w.heap.size (fun _ => True) v7 xs) ∧ xs.length ≤ k ∧ Hid (xs ++ runsL f (D + 1) (D + 1 - k) k = R0) ∧ Hid (Below w.heap.size w wr)) (fun _ i _ => D + 2 - (intOf i).toNat)
  case atStart => exact ⟨0, [], rfl, by omega, Lib.hid (Kd.R_nil _ _ _ _ _), by simp, Lib.hid (by rw [List.nil_append]; exact H0.out), Lib.hid (Below.refl _ _)⟩
  case round =>
    obtain ⟨k, xs, rfl, hk, HR, hxl, HX, HW⟩ := hrel
    by_cases hlt : k < D + 1
    · have HC1 := Lib.hid (HC.out k wr (by omega) HW.out)
      cases ho : f k
      · have HX2 := Lib.hid ((congrArg (xs ++ ·) (runsL_skip hlt ho)).symm.trans HX.out)
        rw [ho] at HC1
        clear HX ho
        go_wp2_with fail
        refine HC1.out.mono ?_
        rintro e w2 ⟨rfl, rfl⟩
        go_wp2
        go_roundw
        case rel => exact ⟨k + 1, xs, by go_num, by omega, HR, by omega, HX2, HW⟩
        case measure => simp [intOf]; omega
      · have HX2 := Lib.hid ((congrArg (xs ++ ·) (runsL_take hlt ho)).symm.trans HX.out)
        rw [ho] at HC1
        clear HX ho
        go_wp2_with fail
        refine HC1.out.mono ?_
        rintro e w2 ⟨rfl, rfl⟩
        go_wp2_with fail
        go_loop [9] (fun v9 => ∃ h : Nat, v9 = .int .i64 h ∧ k ≤ h ∧ h < D + 1 ∧ Hid (ext f (D + 1) (D + 1) h = ext f (D + 1) (D + 1) k)) (fun v9 => D + 1 - (intOf v9).toNat)
        case atStart => exact ⟨k, rfl, by omega, by omega, Lib.hid rfl⟩
        case round =>
          obtain ⟨h, rfl, hkh, hhD, HE⟩ := hrel
          have he := HE.out
          rw [ext_step _ _ _ (by omega)] at he
          by_cases hgo : h + 1 < D + 1 ∧ f (h + 1) = true
          · rw [if_pos hgo] at he
            obtain ⟨hn, hg⟩ := hgo
            have HC2 := Lib.hid (HC.out (h + 1) wr (by omega) HW.out)
            rw [hg] at HC2
            have HE2 := Lib.hid he
            clear he hg HE
            go_wp2_with fail
            refine HC2.out.mono ?_
            rintro e w2 ⟨rfl, rfl⟩
            go_wp2
            go_round
            case rel => exact ⟨h + 1, by go_num, by omega, by omega, HE2⟩
            case measure => simp [intOf]; omega
          · rw [if_neg hgo] at he
            have HE2 := Lib.hid he
            have hex : (h + 1 < D + 1 ∧ f (h + 1) = false) ∨ ¬ h + 1 < D + 1 := by
              by_cases hn : h + 1 < D + 1
              · exact .inl ⟨hn, by cases hg : f (h + 1); rfl; exact absurd ⟨hn, hg⟩ hgo⟩
              · exact .inr hn
            clear he HE hgo
            rw [← HE2.out] at HX2
            rcases hex with ⟨hn, hg⟩ | hn
            case' inl =>
              have HC2 := Lib.hid (HC.out (h + 1) wr (by omega) HW.out)
              rw [hg] at HC2
              clear hg
              go_wp2_with fail
              refine HC2.out.mono ?_
              rintro e w2 ⟨rfl, rfl⟩
            all_goals
              go_wp2_with fail
              refine (spans2_calls k h _).mono ?_
              rintro e w3 ⟨rfl, hb3⟩
              have HR3 := Lib.hid (Kd.R_below HR.out hb3)
              have HW3 := Lib.hid (HW.out.trans (hb3.mono HW.out.size))
              clear hb3
              go_wp2_with ((with_reducible refine gate_builtin (b := .append) (xs := #[.tmp 32, .tmp 37]) rfl ?_); at_builtin; refine Kd.R_append k65 (w0 := w) w.heap.size rfl (.tmp 32) (.tmp 37) 33 65 (.agg #[.int .i64 0, .int .i64 0]) 16 rfl Try.underlying33 info_span rfl (by decide) (by omega) u7 xs (⟨k, h⟩ : S65) [.int .i64 (k : Int), .int .i64 (h : Int)] (fun _ => True) (fun _ => False) rfl rfl (k65_mkM _ _ _ (⟨k, h⟩ : S65)) (fun _ hk => hk.elim) (fun _ _ => trivial) HR3.out HW3.out HW3.out.size (by omega) ?_; intro v1 w1 hR1 hB1 hg1 _; have HR1 := Lib.hid hR1; have HB1 := Lib.hid hB1; clear hR1 hB1 hg1)
              go_roundw
              case rel => exact ⟨h + 1, xs ++ [⟨k, h⟩], by go_num, by omega, HR1, by simp; omega, Lib.hid (by rw [List.append_assoc]; exact HX2.out), HB1⟩
              case measure => simp [intOf]; omega
    · rw [runsL_end (by omega), List.append_nil] at HX
      go_wp2
      go_ret
      exact ⟨_, rfl, by rw [← HX.out]; exact HR.out, HW.out⟩

theorem spans_calls (B L o cap D : Nat) (A kept : Int) (S : Nat → KS) (w : World) (hS : BetsAt w B L o cap D A kept S) (hD : D ≤ 1000) :
    Calls Try.prog 56 #[.pointer (some ⟨B, 0, none⟩)] w fun e w' =>
      ∃ v, e = .returned v ∧ Kd.R k65 65 w' w.heap.size (fun _ => True) v (runsL (fun k => !(S k).out) (D + 1) (D + 1) 0) ∧ Below w.heap.size w w' := by
  have c0 := hS.cells.1
  have lS := hS.lt
  have bd : (D : Int) ≤ 1000 := by omega
  have HS := Lib.hid hS
  clear hS
  go_enter Try.func56, Try.ntmps56
  go_wp2_with fail
  have hb := Blk.new w #[.pointer (some ⟨B, 0, none⟩)] 86
  refine (runs_any w.heap.size D (fun k => !(S k).out) _ hD ?_).mono ?_
  · intro k w2 hk hw
    have hS2 := (HS.out.below ((Below.refl w.heap.size w).alloc (Nat.le_refl _) (.cells #[.pointer (some ⟨B, 0, none⟩)] 86 (0, 0))) lS.1 lS.2).below hw (by simp; omega) (by simp; omega)
    exact spans1_calls w.heap.size B L o cap D k A kept S w2 ((hw.cell (p := ⟨w.heap.size, 0, none⟩) (by simp)).trans (hb.cell 0)) hS2 hk hD
  · rintro e w2 ⟨v, rfl, hR, hB⟩
    have HR := Lib.hid hR
    have HB := Lib.hid hB
    clear hR hB hb
    go_wp2
    go_ret
    refine ⟨_, rfl, Kd.R_lower HR.out (by simp), ?_⟩
    exact ((Below.refl w.heap.size w).alloc (Nat.le_refl _) _).trans (HB.out.mono (by simp))
end Go.Proofs.Ytgofaifmbjallaa.Cn

namespace Go.Proofs.Ytgofaifmbjallaa.Cn
open Go.RowKit Go.Proofs.YtgofaifmbjallaaW.PrintWords Go.Proofs.YtgofaifmbjallaaW.PrintLast Go.Proofs.YtgofaifmbjallaaW.PrintMore

/-- the rates that are kept -/
def keptF (S : Nat → KS) : Nat → Bool := fun k => !(S k).out
def spansS (S : Nat → KS) (D : Nat) : List S65 := runsL (keptF S) (D + 1) (D + 1) 0
def hullL (l : List S65) : S65 := ⟨(rd_T65 l 0).f0, (rd_T65 l (l.length - 1 : Int)).f1⟩

theorem addr0_add (g n : Nat) : ({ block := g, off := 0, spot := none } : Addr).add n = ⟨g, n, none⟩ := by
  unfold Addr.add
  split
  · rename_i h; subst h; rfl
  · simp

set_option maxHeartbeats 1000000 in
theorem hull_calls (B L o cap D : Nat) (A kept : Int) (S : Nat → KS) (w : World) (hS : BetsAt w B L o cap D A kept S) (hD : D ≤ 1000) (hne : 1 ≤ (spansS S D).length) (hle : (spansS S D).length ≤ 1001) :
    Calls Try.prog 67 #[.pointer (some ⟨B, 0, none⟩)] w fun e w' => e = .returned (.agg #[.int .i64 (hullL (spansS S D)).f0, .int .i64 (hullL (spansS S D)).f1]) ∧ Below w.heap.size w w' := by
  have lS := hS.lt
  have HS := Lib.hid hS
  clear hS
  obtain ⟨xs, hxs⟩ : ∃ xs, spansS S D = xs := ⟨_, rfl⟩
  rw [hxs] at hne hle
  rw [hxs]
  have HXS := Lib.hid hxs
  clear hxs
  go_enter Try.func67, Try.ntmps67
  go_wp2_with fail
  have hw0 := (Below.refl w.heap.size w).alloc (Nat.le_refl _) (.cells #[.int .i64 0, .int .i64 0] 65 (0, 0))
  have hS0 := HS.out.below hw0 lS.1 lS.2
  have hb := Blk.new w #[.int .i64 0, .int .i64 0] 65
  have Hz := Lib.hid (show (w.alloc (.cells #[.int .i64 0, .int .i64 0] 65 (0, 0))).heap.size = w.heap.size + 1 by simp)
  have Hb := Lib.hid hb
  have HW0 := Lib.hid hw0
  have HC := Lib.hid (spans_calls B L o cap D A kept S _ hS0 hD)
  clear hS0 hb hw0
  generalize (w.alloc (.cells #[.int .i64 0, .int .i64 0] 65 (0, 0))) = w0 at *
  refine HC.out.mono ?_
  rintro e w2 ⟨v, rfl, hR, hB2⟩
  rw [show (fun k => !(S k).out) = keptF S from rfl] at hR
  change Kd.R _ _ _ _ _ _ (spansS S D) at hR
  rw [HXS.out] at hR
  obtain ⟨g, c, rfl, hg, hglt, _⟩ := Kd.R_form hR (by omega)
  obtain ⟨_, hcap, hC⟩ := Kd.R_reads' hR
  obtain ⟨ad0, e0, p0, _⟩ := at_T65 hC 0 (by omega) (by omega)
  obtain ⟨ad1, e1, _, p1⟩ := at_T65 hC (xs.length - 1 : Int) (by omega) (by omega)
  injection e0 with e0
  injection e1 with e1
  subst e0
  subst e1
  have b2 := (Hb.out.below hB2 (by rw [Hz.out]; omega))
  have f0 := b2.free 0
  have f1 := b2.free 1
  have q0 := b2.cell 0
  have q1 := b2.cell 1
  simp at q0 q1
  have hn1 : (0 : Int) ≤ (xs.length : Int) - 1 ∧ (xs.length : Int) - 1 < (xs.length : Int) := ⟨by omega, by omega⟩
  have hn0 : (0 : Int) < (xs.length : Int) := by omega
  have hn2 : (xs.length : Int) ≤ 1001 := by omega
  have HB2 := Lib.hid hB2
  have Hb2 := Lib.hid b2
  clear hB2 hR hC b2
  rw [addr0_add] at p0 p1
  rw [show ((xs.length : Int) - 1).toNat = xs.length - 1 by omega] at p1
  rw [show (0 : Int).toNat * 2 = 0 by simp] at p0
  go_wp2_with fail
  go_region
  go_wp2
  have hbF : ∀ x y : Value, Blk ((w2.setCell { block := w.heap.size, off := 0 } x).setCell { block := w.heap.size, off := 1 } y).drew w.heap.size #[x, y] 65 := by
    intro x y
    have := (Hb2.out.setCell 0 x).setCell 1 y
    simpa using this.drew
  refine bodyPost_ret (results_cell_row rfl _ _ w.heap.size 65 _ (0, 0) _ rfl (hbF _ _) Try.underlying65 rfl (by kernel_rfl)) rfl ?_
  refine ⟨rfl, ?_⟩
  have h2 : Below w.heap.size w w2 := HW0.out.trans (HB2.out.mono HW0.out.size)
  exact ((h2.setCell (p := ⟨w.heap.size, 0, none⟩) (Nat.le_refl _) _).setCell (p := ⟨w.heap.size, 1, none⟩) (Nat.le_refl _) _).drew
end Go.Proofs.Ytgofaifmbjallaa.Cn

namespace Go.Proofs.Ytgofaifmbjallaa.Cn
open Go.RowKit Go.Proofs.YtgofaifmbjallaaW.PrintWords Go.Proofs.YtgofaifmbjallaaW.PrintLast Go.Proofs.YtgofaifmbjallaaW.PrintMore

def count_Bet.f (a0 a1 a2 a3 a4 : Int) : Option (Int × Int × Int) :=
  if (withinB a3 2 1000 && withinB a1 0 4000 && withinB a2 0 a1 && withinB a0 0 1000000000000 && withinB a4 0 a3) = true then some (hitV a3 a1 a2 a4 a0, missV a3 a1 a2 a4 a0, 0) else some (0, 0, 2)

theorem withinB_iff {n low high : Int} : withinB n low high = true ↔ low ≤ n ∧ n ≤ high := by simp [withinB]

theorem BetAt.drewN {w : World} {b o : Nat} {D n h k c : Int} (hb : BetAt w b o D n h k c) (m : Nat) : BetAt (w.drewN m) b o D n h k c := ⟨hb.h0, hb.h1, hb.h2, hb.h3, hb.h4⟩
theorem below_drewN (B : Nat) (w : World) (m : Nat) : Below B w (w.drewN m) := ⟨rfl, rfl, rfl, Nat.le_refl _, fun _ _ => rfl⟩

set_option maxHeartbeats 1000000 in
theorem bet_calls (a0 a1 a2 a3 a4 : Int) (w : World) :
    Calls Try.prog 15 #[.int .i64 a0, .int .i64 a1, .int .i64 a2, .int .i64 a3, .int .i64 a4] w fun e w' => (∃ r1 r2 r3 : Int, count_Bet.f a0 a1 a2 a3 a4 = some (r1, r2, r3) ∧ e = .returned (.tuple #[.int .i64 r1, .int .i64 r2, .int .i64 r3])) ∧ Below w.heap.size w w' := by
  have H1 := Lib.hid (within_calls a3 2 1000 w)
  have H2 := Lib.hid (within_calls a1 0 4000 w)
  have H3 := Lib.hid (within_calls a2 0 a1 w)
  have H4 := Lib.hid (within_calls a0 0 1000000000000 w)
  have H5 := Lib.hid (within_calls a4 0 a3 w)
  have E := Lib.hid (show count_Bet.f a0 a1 a2 a3 a4 = if (withinB a3 2 1000 && withinB a1 0 4000 && withinB a2 0 a1 && withinB a0 0 1000000000000 && withinB a4 0 a3) = true then some (hitV a3 a1 a2 a4 a0, missV a3 a1 a2 a4 a0, 0) else some (0, 0, 2) from rfl)
  obtain ⟨R, hR⟩ : ∃ R, count_Bet.f a0 a1 a2 a3 a4 = R := ⟨_, rfl⟩
  rw [hR] at E
  rw [hR]
  clear hR
  have F := Lib.hid (show (withinB a3 2 1000 && withinB a1 0 4000 && withinB a2 0 a1 && withinB a0 0 1000000000000 && withinB a4 0 a3) = true → Fit a3 a1 a2 a4 a0 by
    intro h
    simp only [Bool.and_eq_true, withinB_iff] at h
    exact ⟨by omega, by omega, by omega, by omega, by omega, by omega, by omega, by omega, by omega⟩)
  generalize withinB a3 2 1000 = x1 at *
  generalize withinB a1 0 4000 = x2 at *
  generalize withinB a2 0 a1 = x3 at *
  generalize withinB a0 0 1000000000000 = x4 at *
  generalize withinB a4 0 a3 = x5 at *
  cases x1
  · have HR := Lib.hid (show R = some (0, 0, 2) by rw [E.out]; simp)
    clear E F
    go_enter Try.func15, Try.ntmps15
    go_wp2_with fail
    refine H1.out.mono ?_
    rintro e w' ⟨rfl, rfl⟩
    go_wp2
    go_ret3
    exact ⟨⟨_, _, _, HR.out, rfl⟩, Below.refl _ _⟩
  cases x2
  · have HR := Lib.hid (show R = some (0, 0, 2) by rw [E.out]; simp)
    clear E F
    go_enter Try.func15, Try.ntmps15
    go_wp2_with fail
    refine H1.out.mono ?_
    rintro e w' ⟨rfl, rfl⟩
    go_wp2_with fail
    refine H2.out.mono ?_
    rintro e w' ⟨rfl, rfl⟩
    go_wp2
    go_ret3
    exact ⟨⟨_, _, _, HR.out, rfl⟩, Below.refl _ _⟩
  cases x3
  · have HR := Lib.hid (show R = some (0, 0, 2) by rw [E.out]; simp)
    clear E F
    go_enter Try.func15, Try.ntmps15
    go_wp2_with fail
    refine H1.out.mono ?_
    rintro e w' ⟨rfl, rfl⟩
    go_wp2_with fail
    refine H2.out.mono ?_
    rintro e w' ⟨rfl, rfl⟩
    go_wp2_with fail
    refine H3.out.mono ?_
    rintro e w' ⟨rfl, rfl⟩
    go_wp2
    go_ret3
    exact ⟨⟨_, _, _, HR.out, rfl⟩, Below.refl _ _⟩
  cases x4
  · have HR := Lib.hid (show R = some (0, 0, 2) by rw [E.out]; simp)
    clear E F
    go_enter Try.func15, Try.ntmps15
    go_wp2_with fail
    refine H1.out.mono ?_
    rintro e w' ⟨rfl, rfl⟩
    go_wp2_with fail
    refine H2.out.mono ?_
    rintro e w' ⟨rfl, rfl⟩
    go_wp2_with fail
    refine H3.out.mono ?_
    rintro e w' ⟨rfl, rfl⟩
    go_wp2_with fail
    refine H4.out.mono ?_
    rintro e w' ⟨rfl, rfl⟩
    go_wp2
    go_ret3
    exact ⟨⟨_, _, _, HR.out, rfl⟩, Below.refl _ _⟩
  cases x5
  · have HR := Lib.hid (show R = some (0, 0, 2) by rw [E.out]; simp)
    clear E F
    go_enter Try.func15, Try.ntmps15
    go_wp2_with fail
    refine H1.out.mono ?_
    rintro e w' ⟨rfl, rfl⟩
    go_wp2_with fail
    refine H2.out.mono ?_
    rintro e w' ⟨rfl, rfl⟩
    go_wp2_with fail
    refine H3.out.mono ?_
    rintro e w' ⟨rfl, rfl⟩
    go_wp2_with fail
    refine H4.out.mono ?_
    rintro e w' ⟨rfl, rfl⟩
    go_wp2_with fail
    refine H5.out.mono ?_
    rintro e w' ⟨rfl, rfl⟩
    go_wp2
    go_ret3
    exact ⟨⟨_, _, _, HR.out, rfl⟩, Below.refl _ _⟩
  have HF := Lib.hid (F.out rfl)
  have HR := Lib.hid (show R = some (hitV a3 a1 a2 a4 a0, missV a3 a1 a2 a4 a0, 0) by rw [E.out]; simp)
  clear E F
  go_enter Try.func15, Try.ntmps15
  go_wp2_with fail
  refine H1.out.mono ?_
  rintro e w' ⟨rfl, rfl⟩
  go_wp2_with fail
  refine H2.out.mono ?_
  rintro e w' ⟨rfl, rfl⟩
  go_wp2_with fail
  refine H3.out.mono ?_
  rintro e w' ⟨rfl, rfl⟩
  go_wp2_with fail
  refine H4.out.mono ?_
  rintro e w' ⟨rfl, rfl⟩
  go_wp2_with fail
  refine H5.out.mono ?_
  rintro e w' ⟨rfl, rfl⟩
  go_wp2_with fail
  have hb := Blk.new w #[.int .i64 a3, .int .i64 a1, .int .i64 a2, .int .i64 a4, .int .i64 a0] 82
  have hi : BetIn #[.int .i64 a3, .int .i64 a1, .int .i64 a2, .int .i64 a4, .int .i64 a0] 0 a3 a1 a2 a4 a0 := ⟨rfl, rfl, rfl, rfl, rfl⟩
  have HA := Lib.hid (hi.at hb)
  have HB := Lib.hid ((Below.refl w.heap.size w).alloc (Nat.le_refl _) (.cells #[.int .i64 a3, .int .i64 a1, .int .i64 a2, .int .i64 a4, .int .i64 a0] 82 (0, 0)))
  clear hb hi
  refine (hit_calls w.heap.size 0 a3 a1 a2 a4 a0 _ HA.out HF.out).mono ?_
  rintro e w' ⟨rfl, m, rfl⟩
  go_wp2_with fail
  refine (miss_calls w.heap.size 0 a3 a1 a2 a4 a0 _ (HA.out.drewN m) HF.out).mono ?_
  rintro e w' ⟨rfl, m2, rfl⟩
  go_wp2
  go_ret3
  exact ⟨⟨_, _, _, HR.out, rfl⟩, HB.out.trans (below_drewN _ _ _)⟩

theorem count_Bet.calls (a0 a1 a2 a3 a4 : Int) (r1 r2 r3 : Int) (w : World) (h : count_Bet.f a0 a1 a2 a3 a4 = some (r1, r2, r3)) :
    Calls Try.prog 15 #[.int .i64 a0, .int .i64 a1, .int .i64 a2, .int .i64 a3, .int .i64 a4] w fun e w' => e = .returned (.tuple #[.int .i64 r1, .int .i64 r2, .int .i64 r3]) ∧ Below w.heap.size w w' := by
  refine (bet_calls a0 a1 a2 a3 a4 w).mono ?_
  rintro e w' ⟨⟨x1, x2, x3, hx, rfl⟩, hb⟩
  rw [h] at hx
  simp only [Option.some.injEq, Prod.mk.injEq] at hx
  obtain ⟨rfl, rfl, rfl⟩ := hx
  exact ⟨rfl, hb⟩
end Go.Proofs.Ytgofaifmbjallaa.Cn

namespace Go.Proofs.Ytgofaifmbjallaa.Cn
set_option linter.unusedVariables false
open Go.RowKit Go.Proofs.YtgofaifmbjallaaW.PrintWords Go.Proofs.YtgofaifmbjallaaW.PrintLast Go.Proofs.YtgofaifmbjallaaW.PrintMore

def count_Kept.f (l0 : List Bool) (a1 a2 : Int) : Option ((List S65) × Int) :=
  if listedV l0.length a1 (withinB a2 2 900000) = 0 then some (spansS (runS a1 a2 l0 start) a1.toNat, 0) else some ([], listedV l0.length a1 (withinB a2 2 900000))

theorem listedV_ok {n : Nat} {D : Int} {fine : Bool} (h : listedV n D fine = 0) : 2 ≤ D ∧ D ≤ 1000 ∧ n ≤ 4000 ∧ fine = true := by
  unfold listedV at h
  split at h
  · exact absurd h (by decide)
  · split at h
    · exact absurd h (by decide)
    · split at h
      · exact absurd h (by decide)
      · rename_i a b c
        refine ⟨by omega, by omega, by omega, ?_⟩
        cases fine
        · exact absurd rfl c
        · rfl

/-- begin and run together, from a world on -/
structure Ran (w0 w : World) (B L o cap D : Nat) (A : Int) (l : List Bool) : Prop where
  below : Below w0.heap.size w0 w
  bB : w0.heap.size ≤ B
  bL : w0.heap.size ≤ L
  at_ : BetsAt w B L o cap D A (cnt (D + 1) (runS D A l start)) (runS D A l start)

set_option maxHeartbeats 1000000 in
theorem count_Kept.calls (A0 : Option Addr) (c0 : Nat) (l0 : List Bool) (a1 : Int) (a2 : Int) (r1 : List S65) (r2 : Int) (w : World) (hr0 : Kd.C Kd.bool w A0 l0.length l0) (hc0 : l0.length ≤ c0) (h : count_Kept.f l0 a1 a2 = some (r1, r2)) :
    Calls Try.prog 21 #[.slice A0 l0.length c0, .int .i64 a1, .int .i64 a2] w fun e w' => ∃ v0_ : Value, e = .returned (.tuple #[v0_, .int .i64 r2]) ∧ Kd.R k65 65 w' w.heap.size (fun _ => True) v0_ r1 ∧ Below w.heap.size w w' := by
  have hS := SlotsAt.of_C hr0
  have hlen := Kd.C_max hr0
  have hb1 := Blk.new w #[.int .i64 a2] 3
  have hw1 := (Below.refl w.heap.size w).alloc (Nat.le_refl _) (.cells #[.int .i64 a2] 3 (0, 0))
  have hz1 : (w.alloc (.cells #[.int .i64 a2] 3 (0, 0))).heap.size = w.heap.size + 1 := by simp
  have HL := Lib.hid (listed_calls A0 l0.length c0 a1 52 #[.pointer (some ⟨w.heap.size, 0, none⟩)] (withinB a2 2 900000) (w.alloc (.cells #[.int .i64 a2] 3 (0, 0))) hlen (fun _ => by simp [go_sem]) (fun _ _ _ => kept1_calls w.heap.size a2 _ (hb1.cell 0)))
  have HS1 := Lib.hid (hS.below hw1)
  have HW1 := Lib.hid hw1
  have HZ1 := Lib.hid hz1
  have HB1 := Lib.hid hb1
  have HV := Lib.hid h
  clear hS hlen hw1 hz1 hb1 hr0 hc0 h
  rcases Classical.em (listedV l0.length a1 (withinB a2 2 900000) = 0) with he | he
  · obtain ⟨d2, d3, d4, hf⟩ := listedV_ok he
    obtain ⟨D, rfl⟩ := Int.eq_ofNat_of_zero_le (show 0 ≤ a1 by omega)
    have hv := HV.out
    rw [count_Kept.f, if_pos he] at hv
    simp only [Option.some.injEq, Prod.mk.injEq] at hv
    obtain ⟨rfl, rfl⟩ := hv
    have hA := withinB_iff.1 hf
    rw [he] at HL
    have c1 := HB1.out.cell 0
    simp at c1
    clear he hf HV
    have hD := Lib.hid (show spansS (runS (D : Int) a2 l0 start) (D : Int).toNat = runsL (fun k => !(runS (D : Int) a2 l0 start k).out) (D + 1) (D + 1) 0 from rfl)
    rw [hD.out]
    clear hD
    go_enter Try.func21, Try.ntmps21
    go_wp2_with fail
    refine HL.out.mono ?_
    rintro e w2 ⟨rfl, rfl⟩
    go_wp2_with fail
    refine (begin_calls D a2 _ (by omega)).mono ?_
    rintro e w3 ⟨B, L, o, cap, rfl, hb3, hB, hL, hS3⟩
    have HS3 := Lib.hid hS3
    have HW3 := Lib.hid (HW1.out.trans (hb3.mono HW1.out.size))
    have HSl := Lib.hid ((HS1.out.below (hb3.mono HW1.out.size)))
    rw [HZ1.out] at hB hL
    clear hb3 hS3
    go_wp2_with fail
    refine (run_calls B L o cap D 0 a2 start A0 c0 w.heap.size l0 _ HS3.out (by omega) (by omega) (InvS.start D) (by omega) HSl.out (by omega) (by omega) hA.1 hA.2).mono ?_
    rintro e w4 ⟨rfl, k4, hS4⟩
    have HS4 := Lib.hid hS4
    have HW4 := Lib.hid (HW3.out.trans (k4.below HW3.out.size (by simp; omega)))
    clear hS4 k4
    go_wp2_with fail
    refine (spans_calls B L o cap D a2 _ _ _ HS4.out (by omega)).mono ?_
    rintro e w5 ⟨v, rfl, hR, hb5⟩
    have HR := Lib.hid (Kd.R_lower hR HW4.out.size)
    have HW5 := Lib.hid (HW4.out.trans (hb5.mono HW4.out.size))
    clear hR hb5
    go_wp2
    go_ret2
    exact ⟨v, rfl, HR.out, HW5.out⟩
  · have hv := HV.out
    rw [count_Kept.f, if_neg he] at hv
    simp only [Option.some.injEq, Prod.mk.injEq] at hv
    obtain ⟨rfl, rfl⟩ := hv
    generalize listedV l0.length a1 (withinB a2 2 900000) = r2 at *
    have hx : (r2 != 0) = true := by simpa using he
    have hx2 : (r2 == 0) = false := by simpa using he
    clear he HV
    go_enter Try.func21, Try.ntmps21
    go_wp2_with fail
    refine HL.out.mono ?_
    rintro e w2 ⟨rfl, rfl⟩
    go_wp2
    go_ret2
    exact ⟨_, rfl, Kd.R_nil _ _ _ _ _, HW1.out⟩
end Go.Proofs.Ytgofaifmbjallaa.Cn

namespace Go.Proofs.Ytgofaifmbjallaa.Cn
set_option linter.unusedVariables false
open Go.RowKit Go.Proofs.YtgofaifmbjallaaW.PrintWords Go.Proofs.YtgofaifmbjallaaW.PrintLast Go.Proofs.YtgofaifmbjallaaW.PrintMore

theorem runsL_len (f : Nat → Bool) (n : Nat) : ∀ d low, (runsL f n d low).length ≤ d
  | 0, _ => by simp [runsL]
  | d + 1, low => by
    simp only [runsL]
    split
    · split
      · have := runsL_len f n d (ext f n n low + 1); simp; omega
      · have := runsL_len f n d (low + 1); omega
    · simp
theorem runsL_ne (f : Nat → Bool) (n : Nat) : ∀ d low k, n = low + d → low ≤ k → k < n → f k = true → 1 ≤ (runsL f n d low).length
  | 0, low, k, h1, h2, h3, _ => by omega
  | d + 1, low, k, h1, h2, h3, h4 => by
    simp only [runsL]
    rw [if_pos (by omega)]
    split
    · simp
    · rename_i h
      have : low ≠ k := fun e => h (e ▸ h4)
      exact runsL_ne f n d (low + 1) k (by omega) (by omega) h3 h4
theorem cnt_some {S : Nat → KS} : ∀ i, cnt i S ≠ 0 → ∃ k, k < i ∧ (S k).out = false
  | 0, h => absurd rfl h
  | i + 1, h => by
    cases ho : (S i).out
    · exact ⟨i, by omega, ho⟩
    · have h2 : cnt i S ≠ 0 := by
        intro h0; apply h; simp only [cnt, ho, h0]; rfl
      obtain ⟨k, hk, h'⟩ := cnt_some i h2
      exact ⟨k, by omega, h'⟩
theorem spans_ne {S : Nat → KS} {D : Nat} (h : cnt (D + 1) S ≠ 0) : 1 ≤ (spansS S D).length := by
  obtain ⟨k, hk, ho⟩ := cnt_some _ h
  exact runsL_ne _ _ _ _ k (by omega) (by omega) hk (by simp [keptF, ho])
theorem spans_le (S : Nat → KS) {D : Nat} (hD : D ≤ 1000) : (spansS S D).length ≤ 1001 := by
  have := runsL_len (keptF S) (D + 1) (D + 1) 0
  unfold spansS; omega

def setS (S : Nat → KS) (D : Nat) : Int × Int × Int :=
  if cnt (D + 1) S = 0 then (0, 0, 5) else ((hullL (spansS S D)).f0, (hullL (spansS S D)).f1, 0)
def count_Set.f (l0 : List Bool) (a1 a2 : Int) : Option (Int × Int × Int) :=
  if listedV l0.length a1 (withinB a2 2 900000) = 0 then some (setS (runS a1 a2 l0 start) a1.toNat) else some (0, 0, listedV l0.length a1 (withinB a2 2 900000))

set_option maxHeartbeats 1000000 in
theorem count_Set.calls (A0 : Option Addr) (c0 : Nat) (l0 : List Bool) (a1 : Int) (a2 : Int) (r1 r2 r3 : Int) (w : World) (hr0 : Kd.C Kd.bool w A0 l0.length l0) (hc0 : l0.length ≤ c0) (h : count_Set.f l0 a1 a2 = some (r1, r2, r3)) :
    Calls Try.prog 37 #[.slice A0 l0.length c0, .int .i64 a1, .int .i64 a2] w fun e w' => e = .returned (.tuple #[.agg #[.int .i64 r1, .int .i64 r2], .int .i64 r3]) ∧ Below w.heap.size w w' := by
  have hS := SlotsAt.of_C hr0
  have hlen := Kd.C_max hr0
  have hb1 := (Blk.new w #[.int .i64 a2] 3).alloc (.cells #[.int .i64 0, .int .i64 0] 65 (0, 0))
  have hb2 := Blk.new (w.alloc (.cells #[.int .i64 a2] 3 (0, 0))) #[.int .i64 0, .int .i64 0] 65
  have hw1 := ((Below.refl w.heap.size w).alloc (Nat.le_refl _) (.cells #[.int .i64 a2] 3 (0, 0))).alloc (by simp) (.cells #[.int .i64 0, .int .i64 0] 65 (0, 0))
  have hz1 : ((w.alloc (.cells #[.int .i64 a2] 3 (0, 0))).alloc (.cells #[.int .i64 0, .int .i64 0] 65 (0, 0))).heap.size = w.heap.size + 2 := by simp
  rw [World.size_alloc] at hb2
  have HL := Lib.hid (listed_calls A0 l0.length c0 a1 66 #[.pointer (some ⟨w.heap.size, 0, none⟩)] (withinB a2 2 900000) ((w.alloc (.cells #[.int .i64 a2] 3 (0, 0))).alloc (.cells #[.int .i64 0, .int .i64 0] 65 (0, 0))) hlen (fun _ => by simp [go_sem]) (fun _ _ _ => set1_calls w.heap.size a2 _ (hb1.cell 0)))
  have HS1 := Lib.hid (hS.below hw1)
  have HW1 := Lib.hid hw1
  have HZ1 := Lib.hid hz1
  have HB1 := Lib.hid hb1
  have HB2 := Lib.hid hb2
  have HV := Lib.hid h
  clear hS hlen hw1 hz1 hb1 hb2 hr0 hc0 h
  rcases Classical.em (listedV l0.length a1 (withinB a2 2 900000) = 0) with he | he
  · obtain ⟨d2, d3, d4, hf⟩ := listedV_ok he
    obtain ⟨D, rfl⟩ := Int.eq_ofNat_of_zero_le (show 0 ≤ a1 by omega)
    have hv := HV.out
    rw [count_Set.f, if_pos he] at hv
    have hA := withinB_iff.1 hf
    rw [he] at HL
    have c1 := HB1.out.cell 0
    simp at c1
    have HV2 := Lib.hid hv
    clear he hf HV hv
    go_enter Try.func37, Try.ntmps37
    go_wp2_with fail
    refine HL.out.mono ?_
    rintro e w2 ⟨rfl, rfl⟩
    go_wp2_with fail
    refine (begin_calls D a2 _ (by omega)).mono ?_
    rintro e w3 ⟨B, L, o, cap, rfl, hb3, hB, hL, hS3⟩
    have HS3 := Lib.hid hS3
    have HW3 := Lib.hid (HW1.out.trans (hb3.mono HW1.out.size))
    have HSl := Lib.hid ((HS1.out.below (hb3.mono HW1.out.size)))
    have HB23 := Lib.hid (HB2.out.below hb3 (by simp))
    rw [HZ1.out] at hB hL
    clear hb3 hS3 c1
    go_wp2_with fail
    refine (run_calls B L o cap D 0 a2 start A0 c0 w.heap.size l0 _ HS3.out (by omega) (by omega) (InvS.start D) (by omega) HSl.out (by omega) (by omega) hA.1 hA.2).mono ?_
    rintro e w4 ⟨rfl, k4, hS4⟩
    have HS4 := Lib.hid hS4
    have HW4 := Lib.hid (HW3.out.trans (k4.below HW3.out.size (by simp; omega)))
    have HB24 := Lib.hid (HB23.out.keep k4 (by simp; omega))
    have c4 := hS4.cells.2.1
    have f0 := HB24.out.free 0
    have f1 := HB24.out.free 1
    have q0 := HB24.out.cell 0
    have q1 := HB24.out.cell 1
    simp at q0 q1
    clear hS4 k4
    rcases Classical.em (cnt (D + 1) (runS (D : Int) a2 l0 start) = 0) with hk | hk
    · rw [hk] at c4
      have hv := HV2.out
      rw [show (D : Int).toNat = D from rfl, setS, if_pos hk] at hv
      simp only [Option.some.injEq, Prod.mk.injEq] at hv
      obtain ⟨rfl, rfl, rfl⟩ := hv
      clear hk HV2
      go_wp2
      have hbF := (HB24.out.setCell 0 (.int .i64 0)).setCell 1 (.int .i64 0)
      simp only [List.setIfInBounds_toArray, List.set_cons_zero, List.set_cons_succ] at hbF
      refine bodyPost_ret (results_ct rfl _ _ (w.heap.size + 1) 65 _ (0, 0) _ rfl hbF Try.underlying65 rfl (by kernel_rfl)) rfl ?_
      exact ⟨rfl, (HW4.out.setCell (p := ⟨w.heap.size + 1, 0, none⟩) (by simp) _).setCell (p := ⟨w.heap.size + 1, 1, none⟩) (by simp) _⟩
    · have c4b : (cnt (D + 1) (runS (D : Int) a2 l0 start) == 0) = false := by simpa using hk
      have hv := HV2.out
      rw [show (D : Int).toNat = D from rfl, setS, if_neg hk] at hv
      simp only [Option.some.injEq, Prod.mk.injEq] at hv
      have HX := Lib.hid hv
      have HN := Lib.hid (spans_ne hk)
      clear hk HV2 hv
      go_wp2_with fail
      refine (hull_calls B L o cap D a2 _ _ _ HS4.out (by omega) HN.out (spans_le _ (by omega))).mono ?_
      rintro e w5 ⟨rfl, hb5⟩
      rw [HX.out.1, HX.out.2.1]
      have hr3 := HX.out.2.2
      have HW5 := Lib.hid (HW4.out.trans (hb5.mono HW4.out.size))
      have HB25 := Lib.hid (HB24.out.below hb5 HB24.out.lt)
      subst hr3
      have f0 := HB25.out.free 0
      have f1 := HB25.out.free 1
      have q0 := HB25.out.cell 0
      have q1 := HB25.out.cell 1
      simp at q0 q1
      clear hb5 c4 c4b
      go_wp2
      have hbF := (HB25.out.setCell 0 (.int .i64 r1)).setCell 1 (.int .i64 r2)
      simp only [List.setIfInBounds_toArray, List.set_cons_zero, List.set_cons_succ] at hbF
      refine bodyPost_ret (results_ct rfl _ _ (w.heap.size + 1) 65 _ (0, 0) _ rfl hbF Try.underlying65 rfl (by kernel_rfl)) rfl ?_
      exact ⟨rfl, (HW5.out.setCell (p := ⟨w.heap.size + 1, 0, none⟩) (by simp) _).setCell (p := ⟨w.heap.size + 1, 1, none⟩) (by simp) _⟩
  · have hv := HV.out
    rw [count_Set.f, if_neg he] at hv
    simp only [Option.some.injEq, Prod.mk.injEq] at hv
    obtain ⟨rfl, rfl, rfl⟩ := hv
    generalize listedV l0.length a1 (withinB a2 2 900000) = r3 at *
    have hx : (r3 != 0) = true := by simpa using he
    have hx2 : (r3 == 0) = false := by simpa using he
    have f0 := HB2.out.free 0
    have f1 := HB2.out.free 1
    have q0 := HB2.out.cell 0
    have q1 := HB2.out.cell 1
    simp at q0 q1
    clear he HV
    go_enter Try.func37, Try.ntmps37
    go_wp2_with fail
    refine HL.out.mono ?_
    rintro e w2 ⟨rfl, rfl⟩
    go_wp2
    exact bodyPost_ret (results_ct rfl _ _ (w.heap.size + 1) 65 _ (0, 0) _ rfl HB2.out Try.underlying65 rfl (by kernel_rfl)) rfl ⟨rfl, HW1.out⟩
end Go.Proofs.Ytgofaifmbjallaa.Cn

namespace Go.Proofs.Ytgofaifmbjallaa.Cn
set_option linter.unusedVariables false
open Go.RowKit Go.Proofs.YtgofaifmbjallaaW.PrintWords Go.Proofs.YtgofaifmbjallaaW.PrintLast Go.Proofs.YtgofaifmbjallaaW.PrintMore

def exclS (S : Nat → KS) (k : Nat) : Int × Int := if (S k).out = true then ((S k).at_, 0) else (0, 5)
def count_Excluded.f (l0 : List Bool) (a1 a2 a3 : Int) : Option (Int × Int) :=
  if listedV l0.length a1 (withinB a2 2 900000 && withinB a3 0 a1) = 0 then some (exclS (runS a1 a2 l0 start) a3.toNat) else some (0, listedV l0.length a1 (withinB a2 2 900000 && withinB a3 0 a1))

set_option maxHeartbeats 1000000 in
theorem count_Excluded.calls (A0 : Option Addr) (c0 : Nat) (l0 : List Bool) (a1 : Int) (a2 : Int) (a3 : Int) (r1 r2 : Int) (w : World) (hr0 : Kd.C Kd.bool w A0 l0.length l0) (hc0 : l0.length ≤ c0) (h : count_Excluded.f l0 a1 a2 a3 = some (r1, r2)) :
    Calls Try.prog 32 #[.slice A0 l0.length c0, .int .i64 a1, .int .i64 a2, .int .i64 a3] w fun e w' => e = .returned (.tuple #[.int .i64 r1, .int .i64 r2]) ∧ Below w.heap.size w w' := by
  have hS := SlotsAt.of_C hr0
  have hlen := Kd.C_max hr0
  obtain ⟨wa, hwa⟩ : ∃ wa, wa = ((w.alloc (.cells #[.int .i64 a1] 3 (0, 0))).alloc (.cells #[.int .i64 a2] 3 (0, 0))).alloc (.cells #[.int .i64 a3] 3 (0, 0)) := ⟨_, rfl⟩
  have hb1 : Blk wa w.heap.size #[.int .i64 a1] 3 := by rw [hwa]; exact ((Blk.new w _ _).alloc _).alloc _
  have hb2 : Blk wa (w.heap.size + 1) #[.int .i64 a2] 3 := by
    rw [hwa]; have := (Blk.new (w.alloc (.cells #[.int .i64 a1] 3 (0, 0))) #[.int .i64 a2] 3).alloc (.cells #[.int .i64 a3] 3 (0, 0)); rwa [World.size_alloc] at this
  have hb3 : Blk wa (w.heap.size + 1 + 1) #[.int .i64 a3] 3 := by
    rw [hwa]; have := Blk.new ((w.alloc (.cells #[.int .i64 a1] 3 (0, 0))).alloc (.cells #[.int .i64 a2] 3 (0, 0))) #[.int .i64 a3] 3; rwa [World.size_alloc, World.size_alloc] at this
  have hw1 : Below w.heap.size w wa := by rw [hwa]; exact (((Below.refl w.heap.size w).alloc (Nat.le_refl _) _).alloc (by simp) _).alloc (by simp; omega) _
  have hz1 : wa.heap.size = w.heap.size + 3 := by rw [hwa]; simp
  have HL := Lib.hid (listed_calls A0 l0.length c0 a1 65 #[.pointer (some ⟨w.heap.size + 1, 0, none⟩), .pointer (some ⟨w.heap.size + 1 + 1, 0, none⟩), .pointer (some ⟨w.heap.size, 0, none⟩)] (withinB a2 2 900000 && withinB a3 0 a1) wa hlen (fun _ => by simp [go_sem]) (fun _ _ _ => excluded1_calls _ _ _ a2 a3 a1 _ (hb2.cell 0) (hb3.cell 0) (hb1.cell 0)))
  have HS1 := Lib.hid (hS.below hw1)
  have HW1 := Lib.hid hw1
  have HZ1 := Lib.hid hz1
  have HB1 := Lib.hid hb1
  have HB2 := Lib.hid hb2
  have HB3 := Lib.hid hb3
  have HV := Lib.hid h
  have HWA := Lib.hid hwa
  have c1 := hb1.cell 0
  have c2 := hb2.cell 0
  have c3 := hb3.cell 0
  simp at c1 c2 c3
  clear hS hlen hw1 hz1 hb1 hb2 hb3 hr0 hc0 h hwa
  rcases Classical.em (listedV l0.length a1 (withinB a2 2 900000 && withinB a3 0 a1) = 0) with he | he
  · obtain ⟨d2, d3, d4, hf⟩ := listedV_ok he
    obtain ⟨D, rfl⟩ := Int.eq_ofNat_of_zero_le (show 0 ≤ a1 by omega)
    have hv := HV.out
    rw [count_Excluded.f, if_pos he] at hv
    rw [Bool.and_eq_true, withinB_iff, withinB_iff] at hf
    obtain ⟨hA, hk⟩ := hf
    obtain ⟨k, rfl⟩ := Int.eq_ofNat_of_zero_le hk.1
    rw [he] at HL
    have HV2 := Lib.hid hv
    clear he HV hv
    go_enter Try.func32, Try.ntmps32
    go_wp2_with fail
    rw [← HWA.out]
    refine HL.out.mono ?_
    rintro e w2 ⟨rfl, rfl⟩
    go_wp2_with fail
    refine (begin_calls D a2 _ (by omega)).mono ?_
    rintro e w3 ⟨B, L, o, cap, rfl, hb3, hB, hL, hS3⟩
    have HS3 := Lib.hid hS3
    have HW3 := Lib.hid (HW1.out.trans (hb3.mono HW1.out.size))
    have HSl := Lib.hid ((HS1.out.below (hb3.mono HW1.out.size)))
    have HB33 := Lib.hid (HB3.out.below hb3 HB3.out.lt)
    rw [HZ1.out] at hB hL
    clear hb3 hS3 c1 c2 c3
    go_wp2_with fail
    refine (run_calls B L o cap D 0 a2 start A0 c0 w.heap.size l0 _ HS3.out (by omega) (by omega) (InvS.start D) (by omega) HSl.out (by omega) (by omega) hA.1 hA.2).mono ?_
    rintro e w4 ⟨rfl, k4, hS4⟩
    have HW4 := Lib.hid (HW3.out.trans (k4.below HW3.out.size (by simp; omega)))
    have hb34 := HB33.out.keep k4 (by simp; omega)
    have c4 := hb34.cell 0
    have co := hS4.cells.2.2.1 k (by omega)
    have ca := hS4.cells.2.2.2 k (by omega)
    have bd2 : (0 : Int) ≤ (k : Int) ∧ (k : Int) < 1001 := ⟨by omega, by omega⟩
    simp at c4
    have hv := HV2.out
    rw [show (k : Int).toNat = k from rfl, exclS] at hv
    clear hS4 k4 hb34 HV2
    cases ho : (runS (D : Int) a2 l0 start k).out
    · rw [ho, if_neg (by simp)] at hv
      rw [ho] at co
      simp only [Option.some.injEq, Prod.mk.injEq] at hv
      obtain ⟨rfl, rfl⟩ := hv
      clear ho
      go_wp2_with fail
      go_quiet (fail)
      go_wp2
      go_ret2
      exact ⟨rfl, HW4.out.trans (below_drewN _ _ _)⟩
    · rw [ho, if_pos rfl] at hv
      rw [ho] at co
      simp only [Option.some.injEq, Prod.mk.injEq] at hv
      obtain ⟨h1, rfl⟩ := hv
      rw [h1] at ca
      clear ho h1
      go_wp2_with fail
      go_quiet (fail)
      go_wp2_with fail
      go_quiet (fail)
      go_wp2
      go_ret2
      exact ⟨rfl, (HW4.out.trans (below_drewN _ _ _)).trans (below_drewN _ _ _)⟩
  · have hv := HV.out
    rw [count_Excluded.f, if_neg he] at hv
    simp only [Option.some.injEq, Prod.mk.injEq] at hv
    obtain ⟨rfl, rfl⟩ := hv
    generalize listedV l0.length a1 (withinB a2 2 900000 && withinB a3 0 a1) = r2 at *
    have hx : (r2 != 0) = true := by simpa using he
    have hx2 : (r2 == 0) = false := by simpa using he
    clear he HV
    go_enter Try.func32, Try.ntmps32
    go_wp2_with fail
    rw [← HWA.out]
    refine HL.out.mono ?_
    rintro e w2 ⟨rfl, rfl⟩
    go_wp2
    go_ret2
    exact ⟨rfl, HW1.out⟩
end Go.Proofs.Ytgofaifmbjallaa.Cn

namespace Go.Proofs.Ytgofaifmbjallaa.Cn
set_option linter.unusedVariables false
open Go.RowKit Go.Proofs.YtgofaifmbjallaaW.PrintWords Go.Proofs.YtgofaifmbjallaaW.PrintLast Go.Proofs.YtgofaifmbjallaaW.PrintMore

def count_Decide.f (l0 : List Bool) (a1 a2 a3 a4 : Int) : Option (Int × Int × Int) :=
  if listedV l0.length a1 (withinB a2 2 900000 && withinB a4 1 a1 && withinB a3 0 (a4 - 1)) = 0 then
    some ((decideS (runS a1 a2 l0 start) a1.toNat a3.toNat a4.toNat).1, (decideS (runS a1 a2 l0 start) a1.toNat a3.toNat a4.toNat).2, 0)
  else some (0, 0, listedV l0.length a1 (withinB a2 2 900000 && withinB a4 1 a1 && withinB a3 0 (a4 - 1)))

theorem listedV_dep {n : Nat} {D : Int} {x y : Bool} (h : 2 ≤ D → D ≤ 1000 → x = y) : listedV n D x = listedV n D y := by
  unfold listedV
  split
  · rfl
  · rename_i hh
    rw [h (by omega) (by omega)]

set_option maxRecDepth 100000 in
set_option maxHeartbeats 4000000 in
theorem count_Decide.calls (A0 : Option Addr) (c0 : Nat) (l0 : List Bool) (a1 : Int) (a2 : Int) (a3 : Int) (a4 : Int) (r1 r2 r3 : Int) (w : World) (hr0 : Kd.C Kd.bool w A0 l0.length l0) (hc0 : l0.length ≤ c0) (h : count_Decide.f l0 a1 a2 a3 a4 = some (r1, r2, r3)) :
    Calls Try.prog 24 #[.slice A0 l0.length c0, .int .i64 a1, .int .i64 a2, .int .i64 a3, .int .i64 a4] w fun e w' => e = .returned (.tuple #[.int .i64 r1, .int .i64 r2, .int .i64 r3]) ∧ Below w.heap.size w w' := by
  have hS := SlotsAt.of_C hr0
  have hlen := Kd.C_max hr0
  obtain ⟨wa, hwa⟩ : ∃ wa, wa = (((w.alloc (.cells #[.int .i64 a1] 3 (0, 0))).alloc (.cells #[.int .i64 a2] 3 (0, 0))).alloc (.cells #[.int .i64 a3] 3 (0, 0))).alloc (.cells #[.int .i64 a4] 3 (0, 0)) := ⟨_, rfl⟩
  have hb1 : Blk wa w.heap.size #[.int .i64 a1] 3 := by rw [hwa]; exact (((Blk.new w _ _).alloc _).alloc _).alloc _
  have hb2 : Blk wa (w.heap.size + 1) #[.int .i64 a2] 3 := by
    rw [hwa]; have := ((Blk.new (w.alloc (.cells #[.int .i64 a1] 3 (0, 0))) #[.int .i64 a2] 3).alloc (.cells #[.int .i64 a3] 3 (0, 0))).alloc (.cells #[.int .i64 a4] 3 (0, 0)); rwa [World.size_alloc] at this
  have hb3 : Blk wa (w.heap.size + 1 + 1) #[.int .i64 a3] 3 := by
    rw [hwa]; have := (Blk.new ((w.alloc (.cells #[.int .i64 a1] 3 (0, 0))).alloc (.cells #[.int .i64 a2] 3 (0, 0))) #[.int .i64 a3] 3).alloc (.cells #[.int .i64 a4] 3 (0, 0)); rwa [World.size_alloc, World.size_alloc] at this
  have hb4 : Blk wa (w.heap.size + 1 + 1 + 1) #[.int .i64 a4] 3 := by
    rw [hwa]; have := Blk.new (((w.alloc (.cells #[.int .i64 a1] 3 (0, 0))).alloc (.cells #[.int .i64 a2] 3 (0, 0))).alloc (.cells #[.int .i64 a3] 3 (0, 0))) #[.int .i64 a4] 3; rwa [World.size_alloc, World.size_alloc, World.size_alloc] at this
  have hw1 : Below w.heap.size w wa := by rw [hwa]; exact ((((Below.refl w.heap.size w).alloc (Nat.le_refl _) _).alloc (by simp) _).alloc (by simp; omega) _).alloc (by simp; omega) _
  have hz1 : wa.heap.size = w.heap.size + 4 := by rw [hwa]; simp
  have HL : Hid (Calls Try.prog 51 #[.slice A0 l0.length c0, .int .i64 a1, .func (.func 57) #[] #[.pointer (some ⟨w.heap.size + 1, 0, none⟩), .pointer (some ⟨w.heap.size + 1 + 1 + 1, 0, none⟩), .pointer (some ⟨w.heap.size, 0, none⟩), .pointer (some ⟨w.heap.size + 1 + 1, 0, none⟩)]] wa fun e w' => e = .returned (.int .i64 (listedV l0.length a1 (withinB a2 2 900000 && withinB a4 1 a1 && withinB a3 0 (a4 - 1)))) ∧ wa = w') :=
    listed_calls A0 l0.length c0 a1 57 _ (withinB a2 2 900000 && withinB a4 1 a1 && withinB a3 0 (a4 - 1)) wa hlen (fun _ => by simp [go_sem]) (fun _ hD _ => decide1_calls _ _ _ _ a2 a4 a1 a3 _ (hb2.cell 0) (hb4.cell 0) (hb1.cell 0) (hb3.cell 0) hD)
  have HS1 := Lib.hid (hS.below hw1)
  have HW1 := Lib.hid hw1
  have HZ1 := Lib.hid hz1
  have HB1 := Lib.hid hb1
  have HB2 := Lib.hid hb2
  have HB3 := Lib.hid hb3
  have HB4 := Lib.hid hb4
  have HV := Lib.hid h
  have HWA := Lib.hid hwa
  have c1 := hb1.cell 0
  have c2 := hb2.cell 0
  have c3 := hb3.cell 0
  have c4 := hb4.cell 0
  simp at c1 c2 c3 c4
  clear hS hlen hw1 hz1 hb1 hb2 hb3 hb4 hr0 hc0 h hwa
  rcases Classical.em (listedV l0.length a1 (withinB a2 2 900000 && withinB a4 1 a1 && withinB a3 0 (a4 - 1)) = 0) with he | he
  · obtain ⟨d2, d3, d4, hf⟩ := listedV_ok he
    obtain ⟨D, rfl⟩ := Int.eq_ofNat_of_zero_le (show 0 ≤ a1 by omega)
    have hv := HV.out
    rw [count_Decide.f, if_pos he] at hv
    rw [Bool.and_eq_true, Bool.and_eq_true, withinB_iff, withinB_iff, withinB_iff] at hf
    obtain ⟨⟨hA, hh⟩, hl⟩ := hf
    obtain ⟨hi, rfl⟩ := Int.eq_ofNat_of_zero_le (show 0 ≤ a4 by omega)
    obtain ⟨lo, rfl⟩ := Int.eq_ofNat_of_zero_le hl.1
    rw [he] at HL
    simp only [Int.toNat_natCast, Option.some.injEq, Prod.mk.injEq] at hv
    have HV2 := Lib.hid hv
    clear he HV hv
    go_enter Try.func24, Try.ntmps24
    go_wp2_with fail
    rw [← HWA.out]
    refine HL.out.mono ?_
    rintro e w2 ⟨rfl, rfl⟩
    go_wp2_with fail
    have HWd := Lib.hid (show Below w.heap.size w wa.drew from HW1.out.drew)
    have HSd := Lib.hid (show SlotsAt wa.drew w.heap.size A0 l0 from HS1.out)
    have HB1d := Lib.hid (show Blk wa.drew _ _ _ from HB1.out)
    have HB2d := Lib.hid (show Blk wa.drew _ _ _ from HB2.out)
    have HB3d := Lib.hid (show Blk wa.drew _ _ _ from HB3.out)
    have HB4d := Lib.hid (show Blk wa.drew _ _ _ from HB4.out)
    have HZd := Lib.hid (show wa.drew.heap.size = w.heap.size + 4 from HZ1.out)
    go_region_held3 (fun w' => w'.cell? ⟨w.heap.size, 0, none⟩ = some (.int .i64 (D : Int)) ∧ w'.cell? ⟨w.heap.size + 1, 0, none⟩ = some (.int .i64 a2) ∧ w'.cell? ⟨w.heap.size + 1 + 1, 0, none⟩ = some (.int .i64 (lo : Int)) ∧ w'.cell? ⟨w.heap.size + 1 + 1 + 1, 0, none⟩ = some (.int .i64 (hi : Int)))
      (first | exact ⟨c1, c2, c3, c4⟩ | exact ⟨g1, g2, g3, g4⟩ | exact ⟨k1, k2, k3, k4⟩ | go_keep)
      (first
       | (go_at_call 54; refine (begin_calls D a2 _ (by omega)).mono ?_; rintro e w3 ⟨B, L, o, cap, rfl, hb3, hB, hL, hS3⟩; have HS3 := Lib.hid hS3; have HW3 := Lib.hid (HWd.out.trans (hb3.mono HWd.out.size)); have HSl := Lib.hid ((HSd.out.below (Below.mono hb3 HWd.out.size))); have g1 := (HB1d.out.below hb3 HB1d.out.lt).cell 0; have g2 := (HB2d.out.below hb3 HB2d.out.lt).cell 0; have g3 := (HB3d.out.below hb3 HB3d.out.lt).cell 0; have g4 := (HB4d.out.below hb3 HB4d.out.lt).cell 0; have HB13 := Lib.hid (HB1d.out.below hb3 HB1d.out.lt); have HB23 := Lib.hid (HB2d.out.below hb3 HB2d.out.lt); have HB33 := Lib.hid (HB3d.out.below hb3 HB3d.out.lt); have HB43 := Lib.hid (HB4d.out.below hb3 HB4d.out.lt); simp at g1 g2 g3 g4; rw [HZd.out] at hB hL; clear hb3 hS3)
       | (go_at_call 55; refine (run_calls B L o cap D 0 a2 start A0 c0 w.heap.size l0 _ HS3.out (by omega) (by omega) (InvS.start D) (by omega) HSl.out (by omega) (by omega) hA.1 hA.2).mono ?_; rintro e w4 ⟨rfl, kk4, hS4⟩; have HS4 := Lib.hid hS4; have HW4 := Lib.hid (HW3.out.trans (kk4.below HW3.out.size (by simp; omega))); have k1 := (HB13.out.keep kk4 (by simp; omega)).cell 0; have k2 := (HB23.out.keep kk4 (by simp; omega)).cell 0; have k3 := (HB33.out.keep kk4 (by simp; omega)).cell 0; have k4 := (HB43.out.keep kk4 (by simp; omega)).cell 0; simp at k1 k2 k3 k4; clear hS4 kk4)
       | (go_at_call 58; refine (decide_calls B L o cap D lo hi a2 _ _ _ HS4.out (by omega) (by omega)).mono ?_; rintro e w5 ⟨rfl, rfl⟩))
    go_wp2
    go_ret3
    obtain ⟨rfl, rfl, rfl⟩ := HV2.out
    exact ⟨rfl, HW4.out⟩
  · have hv := HV.out
    rw [count_Decide.f, if_neg he] at hv
    simp only [Option.some.injEq, Prod.mk.injEq] at hv
    obtain ⟨rfl, rfl, rfl⟩ := hv
    generalize listedV l0.length a1 (withinB a2 2 900000 && withinB a4 1 a1 && withinB a3 0 (a4 - 1)) = r3 at *
    have hx : (r3 != 0) = true := by simpa using he
    have hx2 : (r3 == 0) = false := by simpa using he
    clear he HV
    go_enter Try.func24, Try.ntmps24
    go_wp2_with fail
    rw [← HWA.out]
    refine HL.out.mono ?_
    rintro e w2 ⟨rfl, rfl⟩
    go_wp2
    go_ret3
    exact ⟨rfl, HW1.out⟩
end Go.Proofs.Ytgofaifmbjallaa.Cn

namespace Go.Proofs.Ytgofaifmbjallaa.Cn
set_option linter.unusedVariables false
open Go.RowKit Go.Proofs.YtgofaifmbjallaaW.PrintWords Go.Proofs.YtgofaifmbjallaaW.PrintLast Go.Proofs.YtgofaifmbjallaaW.PrintMore

/-- the state of one bet behind slots, and the capitals on the way -/
def cst (D k : Int) : List Bool → Int → Int → Int → Int × Int × Int
  | [], n, h, c => (n, h, c)
  | x :: l, n, h, c => cst D k l (n + 1) (h + b2i x) (moveV x D n h k c)
def cls (D k : Int) : List Bool → Int → Int → Int → List Int
  | [], _, _, _ => []
  | x :: l, n, h, c => moveV x D n h k c :: cls D k l (n + 1) (h + b2i x) (moveV x D n h k c)
theorem cst_snoc (D k : Int) (l : List Bool) (x : Bool) : ∀ n h c, cst D k (l ++ [x]) n h c =
    ((cst D k l n h c).1 + 1, (cst D k l n h c).2.1 + b2i x, moveV x D (cst D k l n h c).1 (cst D k l n h c).2.1 k (cst D k l n h c).2.2) := by
  induction l with
  | nil => intros; rfl
  | cons y l ih => intro n h c; simp only [List.cons_append, cst]; exact ih _ _ _
theorem cls_snoc (D k : Int) (l : List Bool) (x : Bool) : ∀ n h c, cls D k (l ++ [x]) n h c =
    cls D k l n h c ++ [moveV x D (cst D k l n h c).1 (cst D k l n h c).2.1 k (cst D k l n h c).2.2] := by
  induction l with
  | nil => intros; rfl
  | cons y l ih => intro n h c; simp only [List.cons_append, cls, cst]; rw [ih]
theorem cls_len (D k : Int) (l : List Bool) : ∀ n h c, (cls D k l n h c).length = l.length := by
  induction l with
  | nil => intros; rfl
  | cons y l ih => intro n h c; simp only [cls, List.length_cons, ih]
theorem cst_inv {D k : Int} (hD : 2 ≤ D) (k0 : 0 ≤ k) (kD : k ≤ D) (l : List Bool) : ∀ n h c : Int, 0 ≤ h → h ≤ n → 0 ≤ c → c ≤ 1000000000000 →
    (cst D k l n h c).1 = n + l.length ∧ 0 ≤ (cst D k l n h c).2.1 ∧ (cst D k l n h c).2.1 ≤ (cst D k l n h c).1 ∧ 0 ≤ (cst D k l n h c).2.2 ∧ (cst D k l n h c).2.2 ≤ 1000000000000 := by
  induction l with
  | nil => intro n h c h1 h2 h3 h4; simp [cst]; omega
  | cons x l ih =>
    intro n h c h1 h2 h3 h4
    have hb := moveV_bd (hit := x) (D := D) (n := n) (h := h) (k := k) (c := c) (by omega) h2 h1 k0 kD h3 h4
    have := ih (n + 1) (h + b2i x) (moveV x D n h k c) (by cases x <;> simp [b2i] <;> omega) (by cases x <;> simp [b2i] <;> omega) hb.1 hb.2
    simp only [cst, List.length_cons]
    exact ⟨by omega, this.2⟩
theorem cst_fit {D k : Int} (hD : 2 ≤ D) (hD2 : D ≤ 1000) (k0 : 0 ≤ k) (kD : k ≤ D) (l : List Bool) (hl : l.length ≤ 4000) :
    Fit D (cst D k l 0 0 1048576).1 (cst D k l 0 0 1048576).2.1 k (cst D k l 0 0 1048576).2.2 := by
  obtain ⟨h1, h2, h3, h4, h5⟩ := cst_inv hD k0 kD l 0 0 1048576 (by omega) (by omega) (by omega) (by omega)
  exact ⟨hD, hD2, h2, h3, by omega, k0, kD, h4, h5⟩

def count_Capital.f (l0 : List Bool) (a1 a2 : Int) : Option (List Int × Int) :=
  if listedV l0.length a1 (withinB a2 0 a1) = 0 then some (1048576 :: cls a1 a2 l0 0 0 1048576, 0) else some ([], listedV l0.length a1 (withinB a2 0 a1))

theorem info_int : (Try.prog.info? 3).map (fun i => (i.zero, i.size, i.bytes)) = some (some (.int .i64 0), 1, 8) := by kernel_rfl

/-- the block of a bet behind a step -/
theorem betSet_blk {n h c D k : Int} (hit : Bool) (c' : Int) : betSet #[.int .i64 D, .int .i64 n, .int .i64 h, .int .i64 k, .int .i64 c] 0 hit n h c' = #[.int .i64 D, .int .i64 (n + 1), .int .i64 (h + b2i hit), .int .i64 k, .int .i64 c'] := by
  cases hit <;> simp [betSet, b2i]

set_option maxRecDepth 100000 in
set_option maxHeartbeats 4000000 in
theorem count_Capital.calls (A0 : Option Addr) (c0 : Nat) (l0 : List Bool) (a1 : Int) (a2 : Int) (r1 : List Int) (r2 : Int) (w : World) (hr0 : Kd.C Kd.bool w A0 l0.length l0) (hc0 : l0.length ≤ c0) (h : count_Capital.f l0 a1 a2 = some (r1, r2)) :
    Calls Try.prog 31 #[.slice A0 l0.length c0, .int .i64 a1, .int .i64 a2] w fun e w' => ∃ v0_ : Value, e = .returned (.tuple #[v0_, .int .i64 r2]) ∧ Kd.R (Kd.int .i64) 3 w' w.heap.size (fun _ => True) v0_ r1 ∧ Below w.heap.size w w' := by
  have hS := SlotsAt.of_C hr0
  have hlen := Kd.C_max hr0
  obtain ⟨wa, hwa⟩ : ∃ wa, wa = ((w.alloc (.cells #[.int .i64 a1] 3 (0, 0))).alloc (.cells #[.int .i64 a2] 3 (0, 0))) := ⟨_, rfl⟩
  have hb1 : Blk wa w.heap.size #[.int .i64 a1] 3 := by rw [hwa]; exact (Blk.new w _ _).alloc _
  have hb2 : Blk wa (w.heap.size + 1) #[.int .i64 a2] 3 := by
    rw [hwa]; have := Blk.new (w.alloc (.cells #[.int .i64 a1] 3 (0, 0))) #[.int .i64 a2] 3; rwa [World.size_alloc] at this
  have hw1 : Below w.heap.size w wa := by rw [hwa]; exact ((Below.refl w.heap.size w).alloc (Nat.le_refl _) _).alloc (by simp) _
  have hz1 : wa.heap.size = w.heap.size + 2 := by rw [hwa]; simp
  have HL : Hid (Calls Try.prog 51 #[.slice A0 l0.length c0, .int .i64 a1, .func (.func 63) #[] #[.pointer (some ⟨w.heap.size + 1, 0, none⟩), .pointer (some ⟨w.heap.size, 0, none⟩)]] wa fun e w' => e = .returned (.int .i64 (listedV l0.length a1 (withinB a2 0 a1))) ∧ wa = w') :=
    listed_calls A0 l0.length c0 a1 63 _ (withinB a2 0 a1) wa hlen (fun _ => by simp [go_sem]) (fun _ _ _ => capital1_calls _ _ a2 a1 _ (hb2.cell 0) (hb1.cell 0))
  have HS0 := Lib.hid hS
  have HS1 := Lib.hid (hS.below hw1)
  have HW1 := Lib.hid hw1
  have HZ1 := Lib.hid hz1
  have HV := Lib.hid h
  have HWA := Lib.hid hwa
  have c1 := hb1.cell 0
  have c2 := hb2.cell 0
  simp at c1 c2
  clear hS hlen hw1 hz1 hb1 hb2 hr0 hc0 h hwa
  rcases Classical.em (listedV l0.length a1 (withinB a2 0 a1) = 0) with he | he
  · obtain ⟨d2, d3, d4, hf⟩ := listedV_ok he
    have hv := HV.out
    rw [count_Capital.f, if_pos he] at hv
    rw [withinB_iff] at hf
    obtain ⟨k0, kD⟩ := hf
    rw [he] at HL
    simp only [Option.some.injEq, Prod.mk.injEq] at hv
    have HV2 := Lib.hid hv
    clear he HV hv
    go_enter Try.func31, Try.ntmps31
    go_wp2_with fail
    rw [← HWA.out]
    refine HL.out.mono ?_
    rintro e w2 ⟨rfl, rfl⟩
    go_wp2_with fail
    obtain ⟨wb, hwb⟩ : ∃ wb, wb = ((wa.alloc (.cells #[.int .i64 a1, .int .i64 0, .int .i64 0, .int .i64 a2, .int .i64 1048576] 82 (0, 0))).alloc (.cells #[.int .i64 1048576] 3 (0, 0))) := ⟨_, rfl⟩
    have hbb : Blk wb wa.heap.size #[.int .i64 a1, .int .i64 0, .int .i64 0, .int .i64 a2, .int .i64 1048576] 82 := by rw [hwb]; exact (Blk.new wa _ _).alloc _
    have hRb : Kd.R (Kd.int .i64) 3 wb w.heap.size (fun _ => True) (.slice (some ⟨wa.heap.size + 1, 0, none⟩) 1 1) [1048576] := by
      rw [hwb]
      have h2 := World.ownsRow_lit (base := w.heap.size) (e := 3) (size := 1) (wa.alloc (.cells #[.int .i64 a1, .int .i64 0, .int .i64 0, .int .i64 a2, .int .i64 1048576] 82 (0, 0))) #[.int .i64 1048576] 1 (by rw [World.size_alloc, HZ1.out]; omega) (by simp [maxLen]) rfl
      rw [World.size_alloc] at h2
      exact Kd.R_of_own (enc := Value.int .i64) (xs := [1048576]) h2 (fun _ _ => trivial)
    have hwb1 : Below w.heap.size w wb := by rw [hwb]; exact (HW1.out.alloc HW1.out.size _).alloc (by rw [World.size_alloc, HZ1.out]; omega) _
    have HWB := Lib.hid hwb
    have HBB := Lib.hid hbb
    have HRB := Lib.hid hRb
    have HWB1 := Lib.hid hwb1
    have HSB := Lib.hid (show SlotsAt wb w.heap.size A0 l0 by
      rw [hwb]; exact HS1.out.below (((Below.refl _ wa).alloc (by rw [HZ1.out]; omega) _).alloc (by rw [World.size_alloc, HZ1.out]; omega) _))
    clear hwb hbb hRb hwb1 c1 c2
    rw [← HWB.out]
    go_loopw [10, 29] (fun v10 i wr => ∃ k : Nat, k ≤ l0.length ∧ i = .int .i64 k ∧
        Hid (Blk wr wa.heap.size #[.int .i64 a1, .int .i64 (cst a1 a2 (l0.take k) 0 0 1048576).1, .int .i64 (cst a1 a2 (l0.take k) 0 0 1048576).2.1, .int .i64 a2, .int .i64 (cst a1 a2 (l0.take k) 0 0 1048576).2.2] 82) ∧
        Hid (Kd.R (Kd.int .i64) 3 wr w.heap.size (fun _ => True) v10 (1048576 :: cls a1 a2 (l0.take k) 0 0 1048576)) ∧ Hid (Below w.heap.size w wr) ∧ Hid (SlotsAt wr w.heap.size A0 l0)) (fun _ i _ => l0.length - (intOf i).toNat)
    case atStart => exact ⟨0, by omega, rfl, HBB, HRB, HWB1, HSB⟩
    case round =>
      obtain ⟨k, hk, rfl, HBr, HRr, HWr, HSr⟩ := hrel
      by_cases hlt : k < l0.length
      · obtain ⟨ad, rfl, hbl, hc⟩ := HSr.out k hlt
        have hbd : (0 : Int) ≤ (k : Int) ∧ (k : Int) < (l0.length : Int) := ⟨by omega, by omega⟩
        have hT : l0.take (k + 1) = l0.take k ++ [l0[k]] := List.take_succ_eq_append_getElem hlt
        have HF := Lib.hid (cst_fit (D := a1) (k := a2) d2 d3 k0 kD (l0.take k) (by rw [List.length_take]; omega))
        have hcl := Lib.hid (show (1048576 :: cls a1 a2 (l0.take k) 0 0 1048576).length = k + 1 by rw [List.length_cons, cls_len, List.length_take, Nat.min_eq_left hk])
        have HS := Lib.hid (congrArg (fun l => cst a1 a2 l 0 0 1048576) hT)
        have HC := Lib.hid (congrArg (fun l => cls a1 a2 l 0 0 1048576) hT)
        clear hT
        have HS2 := Lib.hid (HS.out.trans (cst_snoc a1 a2 (l0.take k) l0[k] 0 0 1048576))
        have HC2 := Lib.hid (HC.out.trans (cls_snoc a1 a2 (l0.take k) l0[k] 0 0 1048576))
        clear HS HC
        generalize l0[k] = x at *
        obtain ⟨⟨n, hh, c⟩, hst⟩ : ∃ st, cst a1 a2 (l0.take k) 0 0 1048576 = st := ⟨_, rfl⟩
        rw [hst] at HBr HF HS2 HC2
        clear hst
        go_wp2_with fail
        refine (betNext_calls wa.heap.size 0 _ _ x a1 n hh a2 c _ HBr.out ⟨rfl, rfl, rfl, rfl, rfl⟩ HF.out).mono ?_
        rintro e w2 ⟨rfl, k2, hb2⟩
        rw [betSet_blk] at hb2
        have HW2 := Lib.hid (HWr.out.trans (k2.below HWr.out.size (by simp; rw [HZ1.out]; omega)))
        have HS3 := Lib.hid (HSr.out.keep k2 (by simp; rw [HZ1.out]; omega))
        have c4 := hb2.cell 4
        simp at c4
        have HR2 := Lib.hid (Kd.R_step (Kd.R_types HRr.out HBr.out (by decide)) (w1 := w2) (fun q hq hlt => k2.block q hlt (by simpa using hq.2)))
        have HB2 := Lib.hid hb2
        clear k2 hb2
        go_wp2_with ((with_reducible refine gate_builtin (b := .append) (xs := #[.tmp 35, .tmp 38]) rfl ?_); at_builtin; refine Kd.R_append (Kd.int .i64) (w0 := w) w.heap.size rfl (.tmp 35) (.tmp 38) 56 3 (.int .i64 0) 8 rfl Try.underlying56 info_int rfl (by decide) (by omega) u10 (1048576 :: cls a1 a2 (l0.take k) 0 0 1048576) (moveV x a1 n hh a2 c) [.int .i64 (moveV x a1 n hh a2 c)] (fun _ => True) (fun _ => False) rfl rfl rfl (fun _ hk => hk.elim) (fun _ _ => trivial) (Kd.R_mono HR2.out (fun _ _ => trivial)) HW2.out HW2.out.size (by rw [hcl.out]; omega) ?_; intro v1 w1 hR1 hB1 hg1 _; have HR1 := Lib.hid hR1; have HB1 := Lib.hid hB1; have HG1 := Lib.hid hg1; clear hR1 hB1 hg1)
        go_roundw
        case rel => exact ⟨k + 1, by omega, by go_num, Lib.hid (by rw [HS2.out]; exact (HG1.out.block _ HB2.out.lt (Kd.R_ne HR2.out HB2.out (by decide))).trans HB2.out), Lib.hid (by rw [HC2.out]; exact HR1.out), HB1, Lib.hid (HS0.out.below HB1.out)⟩
        case measure => simp [intOf]; omega
      · obtain rfl : k = l0.length := by omega
        have h := HRr.out
        rw [List.take_of_length_le (Nat.le_refl _), HV2.out.1] at h
        have HR := Lib.hid h
        have hr2 := HV2.out.2
        subst hr2
        clear h
        go_wp2
        go_ret2
        exact ⟨_, rfl, HR.out, HWr.out⟩
  · have hv := HV.out
    rw [count_Capital.f, if_neg he] at hv
    simp only [Option.some.injEq, Prod.mk.injEq] at hv
    obtain ⟨rfl, rfl⟩ := hv
    generalize listedV l0.length a1 (withinB a2 0 a1) = r2 at *
    have hx : (r2 != 0) = true := by simpa using he
    have hx2 : (r2 == 0) = false := by simpa using he
    clear he HV
    go_enter Try.func31, Try.ntmps31
    go_wp2_with fail
    rw [← HWA.out]
    refine HL.out.mono ?_
    rintro e w2 ⟨rfl, rfl⟩
    go_wp2
    go_ret2
    exact ⟨_, rfl, Kd.R_nil _ _ _ _ _, HW1.out⟩
end Go.Proofs.Ytgofaifmbjallaa.Cn

namespace Go.Proofs.Ytgofaifmbjallaa.Cn
set_option linter.unusedVariables false
open Go.RowKit Go.Proofs.YtgofaifmbjallaaW.PrintWords Go.Proofs.YtgofaifmbjallaaW.PrintLast Go.Proofs.YtgofaifmbjallaaW.PrintMore

theorem runsL_bd (f : Nat → Bool) (n : Nat) : ∀ d low, ∀ s ∈ runsL f n d low, (low : Int) ≤ s.f0 ∧ s.f0 ≤ s.f1 ∧ s.f1 < n
  | 0, _, s, h => by simp [runsL] at h
  | d + 1, low, s, h => by
    simp only [runsL] at h
    split at h
    · rename_i hl
      split at h
      · rcases List.mem_cons.1 h with rfl | h
        · have h1 := ext_ge f n n low
          have h2 := ext_lt f n n low hl
          exact ⟨by simp, by simp; omega, by simp; omega⟩
        · have := runsL_bd f n d _ s h
          have h1 := ext_ge f n n low
          exact ⟨by omega, this.2⟩
      · have := runsL_bd f n d _ s h
        exact ⟨by omega, this.2⟩
    · simp at h
theorem rd_mem {xs : List S65} {i : Int} (h0 : 0 ≤ i) (h1 : i < xs.length) : rd_T65 xs i ∈ xs := by
  have : i.toNat < xs.length := by omega
  simp only [rd_T65, List.getD_eq_getElem?_getD, List.getElem?_eq_getElem this, Option.getD_some]
  exact List.getElem_mem this
theorem hull_bd {S : Nat → KS} {D : Nat} (hD : D ≤ 1000) (hne : 1 ≤ (spansS S D).length) :
    0 ≤ (hullL (spansS S D)).f0 ∧ (hullL (spansS S D)).f0 ≤ 1000 ∧ 0 ≤ (hullL (spansS S D)).f1 ∧ (hullL (spansS S D)).f1 ≤ 1000 := by
  have h1 := runsL_bd (keptF S) (D + 1) (D + 1) 0 _ (rd_mem (xs := spansS S D) (i := 0) (by omega) (by omega))
  have h2 := runsL_bd (keptF S) (D + 1) (D + 1) 0 _ (rd_mem (xs := spansS S D) (i := (spansS S D).length - 1) (by omega) (by omega))
  simp only [hullL]
  omega

def doneV (S : Nat → KS) (D : Nat) (width : Int) : Bool :=
  if cnt (D + 1) S = 0 then true else decide ((hullL (spansS S D)).f1 - (hullL (spansS S D)).f0 ≤ width)

set_option maxHeartbeats 1000000 in
theorem stop2_calls (b1 b2 B L o cap D : Nat) (A width : Int) (S : Nat → KS) (w : World) (h1 : w.cell? ⟨b1, 0, none⟩ = some (.pointer (some ⟨B, 0, none⟩))) (h2 : w.cell? ⟨b2, 0, none⟩ = some (.int .i64 width))
    (hS : BetsAt w B L o cap D A (cnt (D + 1) S) S) (hD : D ≤ 1000) :
    Calls Try.prog 70 #[.pointer (some ⟨b1, 0, none⟩), .pointer (some ⟨b2, 0, none⟩)] w fun e w' => e = .returned (.bool (doneV S D width)) ∧ Below w.heap.size w w' := by
  have c4 := hS.cells.2.1
  have l2 := World.block_lt_of_cell? w _ h2
  have HS := Lib.hid hS
  clear hS
  rcases Classical.em (cnt (D + 1) S = 0) with hk | hk
  · rw [show doneV S D width = true by simp [doneV, hk]]
    rw [hk] at c4
    clear hk
    go_enter Try.func70, Try.ntmps70
    go_wp2
    go_ret
    exact ⟨rfl, Below.refl _ _⟩
  · have c4b : (cnt (D + 1) S == 0) = false := by simpa using hk
    rw [show doneV S D width = decide ((hullL (spansS S D)).f1 - (hullL (spansS S D)).f0 ≤ width) by simp [doneV, hk]]
    have hn := spans_ne hk
    obtain ⟨e1, e2, e3, e4⟩ := hull_bd hD hn
    have HC := Lib.hid (hull_calls B L o cap D A _ S w HS.out hD hn (spans_le S hD))
    clear hk hn
    generalize (hullL (spansS S D)).f0 = f0 at *
    generalize (hullL (spansS S D)).f1 = f1 at *
    go_enter Try.func70, Try.ntmps70
    go_wp2_with fail
    refine HC.out.mono ?_
    rintro e w2 ⟨rfl, hb⟩
    have h22 := (hb.cell (p := ⟨b2, 0, none⟩) l2).trans h2
    have l22 : b2 < w2.heap.size := Nat.lt_of_lt_of_le l2 hb.size
    have HB := Lib.hid hb
    clear hb h1 h2 c4 c4b
    go_wp2
    go_ret
    exact ⟨rfl, HB.out.alloc HB.out.size _⟩

def stopL (D : Nat) (A width : Int) : List Bool → (Nat → KS) → Int → Int × Int
  | [], _, _ => (0, 5)
  | x :: l, S, i => if doneV (stepAll D A x S) D width = true then (i + 1, 0) else stopL D A width l (stepAll D A x S) (i + 1)
def stopS (D : Nat) (A width : Int) (l : List Bool) : Int × Int := if doneV start D width = true then (0, 0) else stopL D A width l start 0
def count_Stop.f (l0 : List Bool) (a1 a2 a3 : Int) : Option (Int × Int) :=
  if listedV l0.length a1 (withinB a2 2 900000 && withinB a3 0 a1) = 0 then some (stopS a1.toNat a2 a3 l0) else some (0, listedV l0.length a1 (withinB a2 2 900000 && withinB a3 0 a1))

set_option maxRecDepth 100000 in
set_option maxHeartbeats 4000000 in
theorem count_Stop.calls (A0 : Option Addr) (c0 : Nat) (l0 : List Bool) (a1 : Int) (a2 : Int) (a3 : Int) (r1 r2 : Int) (w : World) (hr0 : Kd.C Kd.bool w A0 l0.length l0) (hc0 : l0.length ≤ c0) (h : count_Stop.f l0 a1 a2 a3 = some (r1, r2)) :
    Calls Try.prog 41 #[.slice A0 l0.length c0, .int .i64 a1, .int .i64 a2, .int .i64 a3] w fun e w' => e = .returned (.tuple #[.int .i64 r1, .int .i64 r2]) ∧ Below w.heap.size w w' := by
  have hS := SlotsAt.of_C hr0
  have hlen := Kd.C_max hr0
  obtain ⟨wa, hwa⟩ : ∃ wa, wa = ((w.alloc (.cells #[.int .i64 a1] 3 (0, 0))).alloc (.cells #[.int .i64 a2] 3 (0, 0))).alloc (.cells #[.int .i64 a3] 3 (0, 0)) := ⟨_, rfl⟩
  have hb1 : Blk wa w.heap.size #[.int .i64 a1] 3 := by rw [hwa]; exact ((Blk.new w _ _).alloc _).alloc _
  have hb2 : Blk wa (w.heap.size + 1) #[.int .i64 a2] 3 := by
    rw [hwa]; have := (Blk.new (w.alloc (.cells #[.int .i64 a1] 3 (0, 0))) #[.int .i64 a2] 3).alloc (.cells #[.int .i64 a3] 3 (0, 0)); rwa [World.size_alloc] at this
  have hb3 : Blk wa (w.heap.size + 1 + 1) #[.int .i64 a3] 3 := by
    rw [hwa]; have := Blk.new ((w.alloc (.cells #[.int .i64 a1] 3 (0, 0))).alloc (.cells #[.int .i64 a2] 3 (0, 0))) #[.int .i64 a3] 3; rwa [World.size_alloc, World.size_alloc] at this
  have hw1 : Below w.heap.size w wa := by rw [hwa]; exact (((Below.refl w.heap.size w).alloc (Nat.le_refl _) _).alloc (by simp) _).alloc (by simp; omega) _
  have hz1 : wa.heap.size = w.heap.size + 3 := by rw [hwa]; simp
  have HL : Hid (Calls Try.prog 51 #[.slice A0 l0.length c0, .int .i64 a1, .func (.func 69) #[] #[.pointer (some ⟨w.heap.size + 1, 0, none⟩), .pointer (some ⟨w.heap.size + 1 + 1, 0, none⟩), .pointer (some ⟨w.heap.size, 0, none⟩)]] wa fun e w' => e = .returned (.int .i64 (listedV l0.length a1 (withinB a2 2 900000 && withinB a3 0 a1))) ∧ wa = w') :=
    listed_calls A0 l0.length c0 a1 69 _ (withinB a2 2 900000 && withinB a3 0 a1) wa hlen (fun _ => by simp [go_sem]) (fun _ _ _ => stop1_calls _ _ _ a2 a3 a1 _ (hb2.cell 0) (hb3.cell 0) (hb1.cell 0))
  have HS0 := Lib.hid hS
  have HW1 := Lib.hid hw1
  have HZ1 := Lib.hid hz1
  have HB3 := Lib.hid hb3
  have HV := Lib.hid h
  have HWA := Lib.hid hwa
  have c1 := hb1.cell 0
  have c2 := hb2.cell 0
  have c3 := hb3.cell 0
  simp at c1 c2 c3
  clear hS hlen hw1 hz1 hb1 hb2 hb3 hr0 hc0 h hwa
  rcases Classical.em (listedV l0.length a1 (withinB a2 2 900000 && withinB a3 0 a1) = 0) with he | he
  · obtain ⟨d2, d3, d4, hf⟩ := listedV_ok he
    obtain ⟨D, rfl⟩ := Int.eq_ofNat_of_zero_le (show 0 ≤ a1 by omega)
    have hv := HV.out
    rw [count_Stop.f, if_pos he] at hv
    rw [Bool.and_eq_true, withinB_iff, withinB_iff] at hf
    obtain ⟨hA, hk⟩ := hf
    rw [he] at HL
    simp only [Int.toNat_natCast, Option.some.injEq] at hv
    have HV2 := Lib.hid hv
    clear he HV hv
    go_enter Try.func41, Try.ntmps41
    go_wp2_with fail
    rw [← HWA.out]
    refine HL.out.mono ?_
    rintro e w2 ⟨rfl, rfl⟩
    go_wp2_with fail
    refine (begin_calls D a2 _ (by omega)).mono ?_
    rintro e w3 ⟨B, L, o, cap, rfl, hb3, hB, hL, hS3⟩
    rw [HZ1.out] at hB hL
    -- the box of b
    have lt3 : wa.heap.size ≤ w3.heap.size := hb3.size
    rw [HZ1.out] at lt3
    obtain ⟨w4, hw4⟩ : ∃ w4, w4 = w3.alloc (.cells #[.pointer (some ⟨B, 0, none⟩)] 86 (0, 0)) := ⟨_, rfl⟩
    have hbx : Blk w4 w3.heap.size #[.pointer (some ⟨B, 0, none⟩)] 86 := by rw [hw4]; exact Blk.new w3 _ _
    have hb34 : Blk w4 (w.heap.size + 1 + 1) #[.int .i64 a3] 3 := by rw [hw4]; exact (HB3.out.below hb3 HB3.out.lt).alloc _
    have hS4 : BetsAt w4 B L o cap D a2 (cnt (D + 1) start) start := by rw [hw4]; exact hS3.keep (Keep.alloc [] _ _) (by simp) (by simp)
    have hw34 : Below w.heap.size w w4 := by rw [hw4]; exact (HW1.out.trans (hb3.mono HW1.out.size)).alloc (by omega) _
    have hl3 := hS3.lt
    have hz4 : w4.heap.size = w3.heap.size + 1 := by rw [hw4]; simp
    have HW4 := Lib.hid hw4
    have HBX := Lib.hid hbx
    have HB34 := Lib.hid hb34
    have HS4 := Lib.hid hS4
    have HW34 := Lib.hid hw34
    have HZ4 := Lib.hid hz4
    clear hb3 hS3 hw4 hbx hb34 hS4 hw34 hz4 c1 c2 c3
    go_wp2_with fail
    rw [← HW4.out]
    have p1 := HBX.out.cell 0
    have p2 := HB34.out.cell 0
    simp at p1 p2
    refine (stop2_calls w3.heap.size (w.heap.size + 1 + 1) B L o cap D a2 a3 start _ p1 p2 HS4.out (by omega)).mono ?_
    rintro e w5 ⟨rfl, hb5⟩
    have hv := HV2.out
    rw [stopS] at hv
    cases hdn : doneV start D a3
    · rw [hdn, if_neg (by simp)] at hv
      have HV3 := Lib.hid hv
      have HW5 := Lib.hid (HW34.out.trans (hb5.mono HW34.out.size))
      have HBX5 := Lib.hid (HBX.out.below hb5 HBX.out.lt)
      have HB35 := Lib.hid (HB34.out.below hb5 HB34.out.lt)
      have HS5 := Lib.hid (HS4.out.below hb5 HS4.out.lt.1 HS4.out.lt.2)
      clear hdn HV2 hb5 p1 p2 hv
      go_wp2_with fail
      go_loopw [30] (fun i wr => ∃ k : Nat, k ≤ l0.length ∧ i = .int .i64 k ∧ Hid (Below w.heap.size w wr) ∧ Hid (Blk wr w3.heap.size #[.pointer (some ⟨B, 0, none⟩)] 86) ∧ Hid (Blk wr (w.heap.size + 1 + 1) #[.int .i64 a3] 3) ∧
        Hid (BetsAt wr B L o cap D a2 (cnt (D + 1) (runS D a2 (l0.take k) start)) (runS D a2 (l0.take k) start)) ∧ Hid (stopL D a2 a3 (l0.drop k) (runS D a2 (l0.take k) start) k = (r1, r2))) (fun i _ => l0.length - (intOf i).toNat)
      case atStart => exact ⟨0, by omega, rfl, HW5, HBX5, HB35, HS5, HV3⟩
      case round =>
        obtain ⟨k, hk0, rfl, HWr, HXr, H3r, HSr, HVr⟩ := hrel
        by_cases hlt : k < l0.length
        · obtain ⟨ad, rfl, hbl, hc⟩ := (HS0.out.below HWr.out) k hlt
          have hbd : (0 : Int) ≤ (k : Int) ∧ (k : Int) < (l0.length : Int) := ⟨by omega, by omega⟩
          have hT : l0.take (k + 1) = l0.take k ++ [l0[k]] := List.take_succ_eq_append_getElem hlt
          have hDr : l0.drop k = l0[k] :: l0.drop (k + 1) := List.drop_eq_getElem_cons hlt
          have hIr := (InvS.start D).run a2 (l0.take k)
          rw [List.length_take, Nat.min_eq_left hk0, Nat.zero_add] at hIr
          have hVr := HVr.out
          rw [hDr, stopL] at hVr
          have HT := Lib.hid ((congrArg (fun l => runS (D : Int) a2 l start) hT).trans (runS_snoc _ _ _ _ _))
          have HIr := Lib.hid hIr
          have HVr2 := Lib.hid hVr
          have p1 := HXr.out.cell 0
          simp at p1
          clear hT hIr hDr hVr HVr
          generalize l0[k] = x at *
          go_wp2_with fail
          refine (betsNext_calls B L o cap D a2 _ x _ HSr.out (by omega) (HIr.out.fit (by omega) (by omega) (by omega)) hA.1 hA.2).mono ?_
          rintro e w6 ⟨rfl, k6, hS6⟩
          rw [← HT.out] at hS6
          have hV6 := HVr2.out
          rw [← HT.out] at hV6
          have HW6 := Lib.hid (HWr.out.trans (k6.below HWr.out.size (by simp; omega)))
          have HX6 := Lib.hid (HXr.out.keep k6 (by simp; omega))
          have H36 := Lib.hid (H3r.out.keep k6 (by simp; omega))
          have HS6 := Lib.hid hS6
          have p16 := HX6.out.cell 0
          have p26 := H36.out.cell 0
          simp at p16 p26
          have HC6 := Lib.hid (stop2_calls w3.heap.size (w.heap.size + 1 + 1) B L o cap D a2 a3 _ _ p16 p26 hS6 (by omega))
          clear hS6 k6 p1 p16 p26 HVr2 HT
          cases hdn : doneV (runS D a2 (l0.take (k + 1)) start) D a3
          · rw [hdn] at hV6 HC6
            rw [if_neg (by simp)] at hV6
            have HV6 := Lib.hid hV6
            clear hV6 hdn
            go_wp2_with fail
            refine HC6.out.mono ?_
            rintro e w7 ⟨rfl, hb7⟩
            have HW7 := Lib.hid (HW6.out.trans (hb7.mono HW6.out.size))
            have HX7 := Lib.hid (HX6.out.below hb7 HX6.out.lt)
            have H37 := Lib.hid (H36.out.below hb7 H36.out.lt)
            have HS7 := Lib.hid (HS6.out.below hb7 HS6.out.lt.1 HS6.out.lt.2)
            clear hb7
            go_wp2
            go_roundw
            case rel => exact ⟨k + 1, by omega, by go_num, HW7, HX7, H37, HS7, HV6⟩
            case measure => simp [intOf]; omega
          · rw [hdn] at hV6 HC6
            rw [if_pos rfl] at hV6
            simp only [Prod.mk.injEq] at hV6
            obtain ⟨rfl, rfl⟩ := hV6
            clear hdn
            go_wp2_with fail
            refine HC6.out.mono ?_
            rintro e w7 ⟨rfl, hb7⟩
            have HW7 := Lib.hid (HW6.out.trans (hb7.mono HW6.out.size))
            clear hb7
            go_wp2
            go_ret2
            exact ⟨rfl, HW7.out⟩
        · have hVr := HVr.out
          rw [List.drop_of_length_le (by omega), stopL] at hVr
          simp only [Prod.mk.injEq] at hVr
          obtain ⟨rfl, rfl⟩ := hVr
          clear HVr
          go_wp2
          go_ret2
          exact ⟨rfl, HWr.out⟩
    · rw [hdn, if_pos rfl] at hv
      simp only [Prod.mk.injEq] at hv
      obtain ⟨rfl, rfl⟩ := hv
      have HW5 := Lib.hid (HW34.out.trans (hb5.mono HW34.out.size))
      clear hdn HV2 hb5 p1 p2
      go_wp2
      go_ret2
      exact ⟨rfl, HW5.out⟩
  · have hv := HV.out
    rw [count_Stop.f, if_neg he] at hv
    simp only [Option.some.injEq, Prod.mk.injEq] at hv
    obtain ⟨rfl, rfl⟩ := hv
    generalize listedV l0.length a1 (withinB a2 2 900000 && withinB a3 0 a1) = r2 at *
    have hx : (r2 != 0) = true := by simpa using he
    have hx2 : (r2 == 0) = false := by simpa using he
    clear he HV
    go_enter Try.func41, Try.ntmps41
    go_wp2_with fail
    rw [← HWA.out]
    refine HL.out.mono ?_
    rintro e w2 ⟨rfl, rfl⟩
    go_wp2
    go_ret2
    exact ⟨rfl, HW1.out⟩
end Go.Proofs.Ytgofaifmbjallaa.Cn
