/- Texts of one claim joined into one: words and contracts. -/
import Derived.Test.YteigcddmbpfahaaC3
import Derived.Test.YteigcddmbpfahaaTk
set_option linter.unusedVariables false
set_option linter.unusedSimpArgs false
section
namespace Go.Proofs.Yteigcddmbpfahaa.Cn
set_option linter.unusedVariables false
open Go.RowKit Go.Proofs.YteigcddmbpfahaaW.PrintWords Go.Proofs.YteigcddmbpfahaaW.PrintLast Go.Proofs.YteigcddmbpfahaaW.PrintMore
structure S24 where
  f0 : Int
  f1 : Int
def z24 : S24 := ⟨(0 : Int), (0 : Int)⟩
def k24 : Kd S24 := Kd.iso (Kd.pair (Kd.int .i64) (Kd.int .i64)) (fun x : S24 => (x.f0, x.f1))
theorem k24_open {w : World} {x : S24} {cs : List Value} (h : k24.K w x cs) : cs = [.int .i64 x.f0, .int .i64 x.f1] := by
  obtain ⟨_, _, rfl, rfl, rfl⟩ := h
  exact rfl
theorem k24_mkM (w : World) (base : Nat) (ok : Nat → Prop) (x : S24)  : k24.M w base ok x [.int .i64 x.f0, .int .i64 x.f1] := ⟨[.int .i64 x.f0], [.int .i64 x.f1], rfl, rfl, rfl⟩
structure S102 where
  f0 : Int
  f1 : S24
def z102 : S102 := ⟨(0 : Int), z24⟩
def k102 : Kd S102 := Kd.iso (Kd.pair (Kd.int .i64) k24) (fun x : S102 => (x.f0, x.f1))
theorem k102_open {w : World} {x : S102} {cs : List Value} (h : k102.K w x cs) : cs = [.int .i64 x.f0, .int .i64 x.f1.f0, .int .i64 x.f1.f1] := by
  obtain ⟨_, _, rfl, rfl, s1⟩ := h
  obtain rfl := k24_open s1
  exact rfl
theorem k102_mkM (w : World) (base : Nat) (ok : Nat → Prop) (x : S102)  : k102.M w base ok x [.int .i64 x.f0, .int .i64 x.f1.f0, .int .i64 x.f1.f1] := ⟨[.int .i64 x.f0], [.int .i64 x.f1.f0, .int .i64 x.f1.f1], rfl, rfl, (k24_mkM w base ok x.f1 )⟩
def rd_T102 (xs : List S102) (i : Int) : S102 := xs.getD i.toNat z102
theorem at_T102 {w : World} {A : Option Addr} {n : Nat} {xs : List S102} (h : Kd.C k102 w A n xs) (i : Int) (h0 : 0 ≤ i) (h1 : i < n) : ∃ ad , A = some ad ∧ w.cell? (ad.add (i.toNat * 3)) = some (.int .i64 (rd_T102 xs i).f0) ∧ w.cell? ⟨(ad.add (i.toNat * 3)).block, (ad.add (i.toNat * 3)).off + 1, none⟩ = some (.int .i64 (rd_T102 xs i).f1.f0) ∧ w.cell? ⟨(ad.add (i.toNat * 3)).block, (ad.add (i.toNat * 3)).off + 2, none⟩ = some (.int .i64 (rd_T102 xs i).f1.f1) := by
  obtain ⟨ad, c, e, _, hK, hc0⟩ := Kd.C_get h z102 i h0 h1
  have hc : ∀ j u, c[j]? = some u → w.cell? (ad.add (i.toNat * 3 + j)) = some u := hc0
  obtain rfl := k102_open hK
  exact ⟨ad, e, hc 0 _ rfl, by rw [← add_field _ _ 1 (by omega)]; exact hc 1 _ rfl, by rw [← add_field _ _ 2 (by omega)]; exact hc 2 _ rfl⟩

def rd_L3 (xs : List (List S102)) (i : Int) : (List S102) := xs.getD i.toNat ([] : List S102)
theorem at_L3 {w : World} {A : Option Addr} {n : Nat} {xs : List (List S102)} (h : Kd.C (Kd.slice 102 k102) w A n xs) (i : Int) (h0 : 0 ≤ i) (h1 : i < n) : ∃ ad A0 c0, A = some ad ∧ w.cell? (ad.add i.toNat) = some (.slice A0 (rd_L3 xs i).length c0) ∧ (rd_L3 xs i).length ≤ c0 ∧ k102.C w A0 (rd_L3 xs i).length (rd_L3 xs i) := by
  obtain ⟨ad, c, e, _, hK, hc0⟩ := Kd.C_get h ([] : List S102) i h0 h1
  have hc : ∀ j u, c[j]? = some u → w.cell? (ad.add (i.toNat * 1 + j)) = some u := hc0
  obtain ⟨A0, c0, rfl, l0, g0⟩ := hK
  exact ⟨ad, A0, c0, e, by have hq := hc 0 _ rfl; rwa [Nat.mul_one, Nat.add_zero] at hq, l0, g0⟩

structure S66 where
  f0 : Int
  f1 : S24
def z66 : S66 := ⟨(0 : Int), z24⟩
def k66 : Kd S66 := Kd.iso (Kd.pair (Kd.int .i64) k24) (fun x : S66 => (x.f0, x.f1))
theorem k66_open {w : World} {x : S66} {cs : List Value} (h : k66.K w x cs) : cs = [.int .i64 x.f0, .int .i64 x.f1.f0, .int .i64 x.f1.f1] := by
  obtain ⟨_, _, rfl, rfl, s1⟩ := h
  obtain rfl := k24_open s1
  exact rfl
theorem k66_mkM (w : World) (base : Nat) (ok : Nat → Prop) (x : S66)  : k66.M w base ok x [.int .i64 x.f0, .int .i64 x.f1.f0, .int .i64 x.f1.f1] := ⟨[.int .i64 x.f0], [.int .i64 x.f1.f0, .int .i64 x.f1.f1], rfl, rfl, (k24_mkM w base ok x.f1 )⟩
def rd_T66 (xs : List S66) (i : Int) : S66 := xs.getD i.toNat z66
theorem at_T66 {w : World} {A : Option Addr} {n : Nat} {xs : List S66} (h : Kd.C k66 w A n xs) (i : Int) (h0 : 0 ≤ i) (h1 : i < n) : ∃ ad , A = some ad ∧ w.cell? (ad.add (i.toNat * 3)) = some (.int .i64 (rd_T66 xs i).f0) ∧ w.cell? ⟨(ad.add (i.toNat * 3)).block, (ad.add (i.toNat * 3)).off + 1, none⟩ = some (.int .i64 (rd_T66 xs i).f1.f0) ∧ w.cell? ⟨(ad.add (i.toNat * 3)).block, (ad.add (i.toNat * 3)).off + 2, none⟩ = some (.int .i64 (rd_T66 xs i).f1.f1) := by
  obtain ⟨ad, c, e, _, hK, hc0⟩ := Kd.C_get h z66 i h0 h1
  have hc : ∀ j u, c[j]? = some u → w.cell? (ad.add (i.toNat * 3 + j)) = some u := hc0
  obtain rfl := k66_open hK
  exact ⟨ad, e, hc 0 _ rfl, by rw [← add_field _ _ 1 (by omega)]; exact hc 1 _ rfl, by rw [← add_field _ _ 2 (by omega)]; exact hc 2 _ rfl⟩


theorem f_within (n low high : Int) (w : World) (h0 : low ≤ n) (h1 : n ≤ high) :
    Calls Try.prog 54 #[.int .i64 n, .int .i64 low, .int .i64 high] w fun e w' => e = .returned (.bool true) ∧ w = w' := by
  go_enter Try.func54, Try.ntmps54
  go_wp2
  go_ret
  exact ⟨by simp [h1], rfl⟩
theorem f_spanned (a b low high : Int) (w : World) (h0 : low ≤ a) (h1 : a ≤ b) (h2 : b ≤ high) :
    Calls Try.prog 73 #[.agg #[.int .i64 a, .int .i64 b], .int .i64 low, .int .i64 high] w fun e w' => e = .returned (.bool true) ∧ Below w.heap.size w w' := by
  go_enter Try.func73, Try.ntmps73
  go_wp2_with fail
  refine (f_within a low b _ h0 h1).mono ?_
  rintro e w' ⟨rfl, rfl⟩
  go_wp2
  go_ret
  exact ⟨by simp [h2], (Below.refl _ _).alloc (Nat.le_refl _) _⟩
theorem f_up (a b c d : Int) (w : World) (h0 : a ≤ c) (h1 : b ≤ d) :
    Calls Try.prog 77 #[.agg #[.int .i64 a, .int .i64 b], .agg #[.int .i64 c, .int .i64 d]] w fun e w' => e = .returned (.bool true) ∧ Below w.heap.size w w' := by
  go_enter Try.func77, Try.ntmps77
  go_wp2
  go_ret
  exact ⟨by simp [h1], ((Below.refl _ _).alloc (Nat.le_refl _) _).alloc (by simp) _⟩
theorem f_down (a b c d : Int) (w : World) (h0 : c ≤ a) (h1 : d ≤ b) :
    Calls Try.prog 72 #[.agg #[.int .i64 a, .int .i64 b], .agg #[.int .i64 c, .int .i64 d]] w fun e w' => e = .returned (.bool true) ∧ Below w.heap.size w w' := by
  go_enter Try.func72, Try.ntmps72
  go_wp2_with fail
  refine (f_up c d a b _ h0 h1).mono ?_
  rintro e w' ⟨rfl, hb⟩
  go_wp2
  go_ret
  exact ⟨rfl, (((Below.refl _ _).alloc (Nat.le_refl _) _).alloc (by simp) _).trans (hb.mono (by simp; omega))⟩
theorem f_sky1 (e a b : Int) (w : World) :
    Calls Try.prog 70 #[.agg #[.int .i64 e, .int .i64 a, .int .i64 b]] w fun x w' => x = .returned (.int .i64 e) ∧ Below w.heap.size w w' := by
  go_enter Try.func70, Try.ntmps70
  go_wp2
  go_ret
  exact ⟨rfl, by repeat (first | exact Below.refl _ _ | refine Below.alloc ?_ (by simp) _)⟩
theorem f_rng1 (e a b : Int) (w : World) :
    Calls Try.prog 75 #[.agg #[.int .i64 e, .int .i64 a, .int .i64 b]] w fun x w' => x = .returned (.int .i64 e) ∧ Below w.heap.size w w' := by
  go_enter Try.func75, Try.ntmps75
  go_wp2
  go_ret
  exact ⟨rfl, by repeat (first | exact Below.refl _ _ | refine Below.alloc ?_ (by simp) _)⟩
theorem f_sky2 (e a b : Int) (w : World) :
    Calls Try.prog 71 #[.agg #[.int .i64 e, .int .i64 a, .int .i64 b]] w fun x w' => x = .returned (.agg #[.int .i64 a, .int .i64 b]) ∧ Below w.heap.size w w' := by
  go_enter Try.func71, Try.ntmps71
  go_wp2
  refine bodyPost_ret (v := .agg #[.int .i64 a, .int .i64 b]) (by simp [results, Try.results71, go_sem]) rfl ?_
  exact ⟨rfl, by repeat (first | exact Below.refl _ _ | refine Below.alloc ?_ (by simp) _)⟩
theorem f_rng2 (e a b : Int) (w : World) :
    Calls Try.prog 76 #[.agg #[.int .i64 e, .int .i64 a, .int .i64 b]] w fun x w' => x = .returned (.agg #[.int .i64 a, .int .i64 b]) ∧ Below w.heap.size w w' := by
  go_enter Try.func76, Try.ntmps76
  go_wp2
  refine bodyPost_ret (v := .agg #[.int .i64 a, .int .i64 b]) (by simp [results, Try.results76, go_sem]) rfl ?_
  exact ⟨rfl, by repeat (first | exact Below.refl _ _ | refine Below.alloc ?_ (by simp) _)⟩
end Go.Proofs.Yteigcddmbpfahaa.Cn
end
section
namespace Go.Proofs.Yteigcddmbpfahaa.Cn
set_option linter.unusedVariables false
open Go.RowKit Go.Proofs.YteigcddmbpfahaaW.PrintWords Go.Proofs.YteigcddmbpfahaaW.PrintLast Go.Proofs.YteigcddmbpfahaaW.PrintMore

theorem cell_kb {w w' : World} {p : Addr} {v : Value} (hb : Below w.heap.size w w') (h : w.cell? p = some v) : w'.cell? p = some v :=
  (hb.cell (World.block_lt_of_cell? w _ h)).trans h
theorem cell_new0 (w : World) (v : Value) (t : Nat) (p q : Value) : (w.alloc (.cells #[v, p, q] t (0, 0))).cell? ⟨w.heap.size, 0, none⟩ = some v := (Blk.new w #[v, p, q] t).cell 0
theorem cell_new1 (w : World) (v p q : Value) (t : Nat) : (w.alloc (.cells #[v, p, q] t (0, 0))).cell? ⟨w.heap.size, 1, none⟩ = some p := (Blk.new w #[v, p, q] t).cell 1
theorem cell_new2 (w : World) (v p q : Value) (t : Nat) : (w.alloc (.cells #[v, p, q] t (0, 0))).cell? ⟨w.heap.size, 2, none⟩ = some q := (Blk.new w #[v, p, q] t).cell 2
theorem keep6 {w0 w w' : World} {p1 p2 p3 q1 q2 q3 : Addr} {v1 v2 v3 u1 u2 u3 : Value} (hb : Below w.heap.size w w') (h : Below w0.heap.size w0 w ∧ w.cell? p1 = some v1 ∧ w.cell? p2 = some v2 ∧ w.cell? p3 = some v3 ∧ w.cell? q1 = some u1 ∧ w.cell? q2 = some u2 ∧ w.cell? q3 = some u3) :
    Below w0.heap.size w0 w' ∧ w'.cell? p1 = some v1 ∧ w'.cell? p2 = some v2 ∧ w'.cell? p3 = some v3 ∧ w'.cell? q1 = some u1 ∧ w'.cell? q2 = some u2 ∧ w'.cell? q3 = some u3 :=
  ⟨h.1.trans (hb.mono h.1.size), cell_kb hb h.2.1, cell_kb hb h.2.2.1, cell_kb hb h.2.2.2.1, cell_kb hb h.2.2.2.2.1, cell_kb hb h.2.2.2.2.2.1, cell_kb hb h.2.2.2.2.2.2⟩

def mono_skyG (l : List S102) (most : Int) : Prop := ∀ i : Nat, i < l.length → 1 ≤ (rd_T102 l i).f0 ∧ (rd_T102 l i).f0 ≤ 1000000 ∧ 0 ≤ (rd_T102 l i).f1.f0 ∧ (rd_T102 l i).f1.f0 ≤ (rd_T102 l i).f1.f1 ∧ (rd_T102 l i).f1.f1 ≤ most ∧
  (0 < i → (rd_T102 l (i - 1 : Nat)).f0 < (rd_T102 l i).f0 ∧ (rd_T102 l i).f1.f0 ≤ (rd_T102 l (i - 1 : Nat)).f1.f0 ∧ (rd_T102 l i).f1.f1 ≤ (rd_T102 l (i - 1 : Nat)).f1.f1)
set_option maxRecDepth 100000 in
set_option maxHeartbeats 4000000 in
theorem mono_sky (A : Option Addr) (c : Nat) (l : List S102) (most : Int) (w : World) (hr : Kd.C k102 w A l.length l) (hc : l.length ≤ c) (hn : 1 ≤ l.length) (hn2 : l.length ≤ 40) (hg : mono_skyG l most) :
    Calls Try.prog 69 #[.slice A l.length c, .int .i64 1, .int .i64 1000000, .func (.func 70) #[] #[], .func (.func 71) #[] #[], .int .i64 most, .func (.func 72) #[] #[]] w fun e w' => e = .returned (.bool true) ∧ Below w.heap.size w w' := by
  have HC := Lib.hid hr
  have HG := Lib.hid hg
  clear hr hg
  go_enter Try.func69, Try.ntmps69
  go_wp2_with fail
  go_loopw [19] (fun v19 wr => ∃ i : Nat, v19 = .int .i64 i ∧ i ≤ l.length ∧ Hid (Below w.heap.size w wr)) (fun v19 _ => l.length - (intOf v19).toNat)
  case atStart => exact ⟨0, rfl, by omega, Lib.hid (Below.refl _ _)⟩
  case round =>
    obtain ⟨i, rfl, hi, HB⟩ := hrel
    by_cases hlt : i < l.length
    · obtain ⟨g1, g2, g3, g4, g5, g6⟩ := HG.out i hlt
      obtain ⟨ad, hA, x1, x2, x3⟩ := at_T102 (Kd.C_below HC.out HB.out) (i : Int) (by omega) (by omega)
      subst hA
      generalize hR : rd_T102 l i = R at *
      obtain ⟨e, s⟩ := R
      obtain ⟨a, b⟩ := s
      simp only [Int.toNat_natCast] at x1 x2 x3 g1 g2 g3 g4 g5 g6
      have hlti : (i : Int) < (l.length : Int) := by omega
      rcases Nat.eq_zero_or_pos i with h0 | h0
      · have HZ := Lib.hid h0
        clear h0
        go_wp2_with fail
        refine (f_sky1 _ _ _ _).mono ?_
        rintro e2 w2 ⟨rfl, hb2⟩
        have y0 := cell_kb hb2 (cell_new0 wr _ _ _ _)
        have y1 := cell_kb hb2 (cell_new1 wr _ _ _ _)
        have y2 := cell_kb hb2 (cell_new2 wr _ _ _ _)
        have HB2 := Lib.hid (((Below.refl wr.heap.size wr).alloc (Nat.le_refl _) _).trans (hb2.mono (by simp)))
        clear hb2
        go_wp2_with fail
        refine (f_within _ _ _ _ g1 g2).mono ?_
        rintro e3 w3 ⟨rfl, rfl⟩
        go_wp2_with fail
        refine (f_sky2 _ _ _ _).mono ?_
        rintro e4 w4 ⟨rfl, hb4⟩
        have z0 := cell_kb hb4 y0
        have z1 := cell_kb hb4 y1
        have z2 := cell_kb hb4 y2
        have HB4 := Lib.hid (HB2.out.trans (hb4.mono HB2.out.size))
        clear hb4 y0 y1 y2
        go_wp2_with fail
        refine (f_spanned _ _ _ _ _ g3 g4 g5).mono ?_
        rintro e5 w5 ⟨rfl, hb5⟩
        have y0 := cell_kb hb5 z0
        have y1 := cell_kb hb5 z1
        have y2 := cell_kb hb5 z2
        have HB5 := Lib.hid (HB4.out.trans (hb5.mono HB4.out.size))
        clear hb5 z0 z1 z2
        go_wp2_with fail
        obtain rfl := HZ.out
        refine wp_region_held_drew (S := fun w' => Below w5.drew.heap.size w5.drew w') (by kernel_rfl) (Below.refl _ _) (fun hS0 => ?_)
        refine tk1 0 (.int .i64 ((0 : Nat) : Int)) rfl (fun w' hSw => by (try dsimp only at hSw); go_simp) (by assumption) ?_
        try simp only [Act.put, xg0, xg1, xg2, xs0, xs1, xs2]
        refine tk1 1 (.bool false) rfl (fun w' hSw => by (try dsimp only at hSw); go_simp) (by assumption) ?_
        try simp only [Act.put, xg0, xg1, xg2, xs0, xs1, xs2]
        refine tk1 2 (.bool false) rfl (fun w' hSw => by (try dsimp only at hSw); go_simp) (by assumption) ?_
        try simp only [Act.put, xg0, xg1, xg2, xs0, xs1, xs2]
        refine tk2 3 rfl (by assumption) ?_
        try simp only [Act.put, xg0, xg1, xg2, xs0, xs1, xs2]
        refine tk2 4 rfl (by assumption) ?_
        try simp only [Act.put, xg0, xg1, xg2, xs0, xs1, xs2]
        refine tk2 5 rfl (by assumption) ?_
        try simp only [Act.put, xg0, xg1, xg2, xs0, xs1, xs2]
        refine tk2 6 rfl (by assumption) ?_
        try simp only [Act.put, xg0, xg1, xg2, xs0, xs1, xs2]
        refine tk2 7 rfl (by assumption) ?_
        try simp only [Act.put, xg0, xg1, xg2, xs0, xs1, xs2]
        refine tk2 8 rfl (by assumption) ?_
        try simp only [Act.put, xg0, xg1, xg2, xs0, xs1, xs2]
        refine tk2 9 rfl (by assumption) ?_
        try simp only [Act.put, xg0, xg1, xg2, xs0, xs1, xs2]
        refine tk2 10 rfl (by assumption) ?_
        try simp only [Act.put, xg0, xg1, xg2, xs0, xs1, xs2]
        refine tk2 11 rfl (by assumption) ?_
        try simp only [Act.put, xg0, xg1, xg2, xs0, xs1, xs2]
        refine tk2 12 rfl (by assumption) ?_
        try simp only [Act.put, xg0, xg1, xg2, xs0, xs1, xs2]
        refine tk2 13 rfl (by assumption) ?_
        try simp only [Act.put, xg0, xg1, xg2, xs0, xs1, xs2]
        refine tk2 14 rfl (by assumption) ?_
        try simp only [Act.put, xg0, xg1, xg2, xs0, xs1, xs2]
        refine tk2 15 rfl (by assumption) ?_
        try simp only [Act.put, xg0, xg1, xg2, xs0, xs1, xs2]
        refine tk2 16 rfl (by assumption) ?_
        try simp only [Act.put, xg0, xg1, xg2, xs0, xs1, xs2]
        refine tk2 17 rfl (by assumption) ?_
        try simp only [Act.put, xg0, xg1, xg2, xs0, xs1, xs2]
        refine tk2 18 rfl (by assumption) ?_
        try simp only [Act.put, xg0, xg1, xg2, xs0, xs1, xs2]
        refine tk2 19 rfl (by assumption) ?_
        try simp only [Act.put, xg0, xg1, xg2, xs0, xs1, xs2]
        refine tk2 20 rfl (by assumption) ?_
        try simp only [Act.put, xg0, xg1, xg2, xs0, xs1, xs2]
        refine tk2 21 rfl (by assumption) ?_
        try simp only [Act.put, xg0, xg1, xg2, xs0, xs1, xs2]
        refine tk2 22 rfl (by assumption) ?_
        try simp only [Act.put, xg0, xg1, xg2, xs0, xs1, xs2]
        refine tk2 23 rfl (by assumption) ?_
        try simp only [Act.put, xg0, xg1, xg2, xs0, xs1, xs2]
        refine tk2 24 rfl (by assumption) ?_
        try simp only [Act.put, xg0, xg1, xg2, xs0, xs1, xs2]
        refine tk2 25 rfl (by assumption) ?_
        try simp only [Act.put, xg0, xg1, xg2, xs0, xs1, xs2]
        refine tk2 26 rfl (by assumption) ?_
        try simp only [Act.put, xg0, xg1, xg2, xs0, xs1, xs2]
        refine tk2 27 rfl (by assumption) ?_
        try simp only [Act.put, xg0, xg1, xg2, xs0, xs1, xs2]
        refine tk2 28 rfl (by assumption) ?_
        try simp only [Act.put, xg0, xg1, xg2, xs0, xs1, xs2]
        refine tk1 29 (.bool false) rfl (fun w' hSw => by (try dsimp only at hSw); go_simp) (by assumption) ?_
        try simp only [Act.put, xg0, xg1, xg2, xs0, xs1, xs2]
        refine wpAnyH_done (by kernel_rfl) ?_ _
        go_wp2_with fail
        exact ⟨⟨1, rfl, by omega, Lib.hid (HB.out.trans (HB5.out.mono HB.out.size)).drew⟩, by simp [intOf]; omega⟩
      · have hd0 : decide ((0 : Int) < (i : Int)) = true := decide_eq_true (by omega)
        have hwr : IntKind.i64.wrap ((i : Int) - 1) = ((i - 1 : Nat) : Int) := by rw [IntKind.wrap_i64]; omega
        have hj : ((i - 1 : Nat) : Int) < (l.length : Int) := by omega
        obtain ⟨ad', hA', v1, v2, v3⟩ := at_T102 (Kd.C_below HC.out HB.out) ((i - 1 : Nat) : Int) (by omega) (by omega)
        cases hA'
        generalize hR' : rd_T102 l (i - 1 : Nat) = R' at *
        obtain ⟨e', s'⟩ := R'
        obtain ⟨a', b'⟩ := s'
        have h6 := g6 h0
        obtain ⟨k1, k2, k3⟩ := h6
        simp only [Int.toNat_natCast] at v1 v2 v3 k1 k2 k3
        have kd : decide (e ≤ e') = false := decide_eq_false (by omega)
        clear g6
        go_wp2_with fail
        refine (f_sky1 _ _ _ _).mono ?_
        rintro e2 w2 ⟨rfl, hb2⟩
        have y0 := cell_kb hb2 (cell_new0 wr _ _ _ _)
        have y1 := cell_kb hb2 (cell_new1 wr _ _ _ _)
        have y2 := cell_kb hb2 (cell_new2 wr _ _ _ _)
        have HB2 := Lib.hid (((Below.refl wr.heap.size wr).alloc (Nat.le_refl _) _).trans (hb2.mono (by simp)))
        clear hb2
        go_wp2_with fail
        refine (f_within _ _ _ _ g1 g2).mono ?_
        rintro e3 w3 ⟨rfl, rfl⟩
        go_wp2_with fail
        refine (f_sky2 _ _ _ _).mono ?_
        rintro e4 w4 ⟨rfl, hb4⟩
        have z0 := cell_kb hb4 y0
        have z1 := cell_kb hb4 y1
        have z2 := cell_kb hb4 y2
        have HB4 := Lib.hid (HB2.out.trans (hb4.mono HB2.out.size))
        clear hb4 y0 y1 y2
        go_wp2_with fail
        refine (f_spanned _ _ _ _ _ g3 g4 g5).mono ?_
        rintro e5 w5 ⟨rfl, hb5⟩
        have y0 := cell_kb hb5 z0
        have y1 := cell_kb hb5 z1
        have y2 := cell_kb hb5 z2
        have HB5 := Lib.hid (HB4.out.trans (hb5.mono HB4.out.size))
        clear hb5 z0 z1 z2
        go_wp2_with fail
        have p1 := cell_kb HB5.out v1
        have p2 := cell_kb HB5.out v2
        have p3 := cell_kb HB5.out v3
        refine wp_region_held_drew (S := fun w' => Below w5.drew.heap.size w5.drew w' ∧ w'.cell? ⟨wr.heap.size, 0, none⟩ = some (.int .i64 e) ∧ w'.cell? ⟨wr.heap.size, 1, none⟩ = some (.int .i64 a) ∧ w'.cell? ⟨wr.heap.size, 2, none⟩ = some (.int .i64 b) ∧ w'.cell? (ad.add ((i - 1) * 3)) = some (.int .i64 e') ∧ w'.cell? ⟨(ad.add ((i - 1) * 3)).block, (ad.add ((i - 1) * 3)).off + 1, none⟩ = some (.int .i64 a') ∧ w'.cell? ⟨(ad.add ((i - 1) * 3)).block, (ad.add ((i - 1) * 3)).off + 2, none⟩ = some (.int .i64 b')) (by kernel_rfl) ⟨Below.refl _ _, y0, y1, y2, p1, p2, p3⟩ (fun hS0 => ?_)
        refine tk1 0 (.int .i64 (i : Int)) rfl (fun w' hSw => by (try dsimp only at hSw); go_simp) (by assumption) ?_
        try simp only [Act.put, xg0, xg1, xg2, xs0, xs1, xs2]
        refine tk1 1 (.bool true) rfl (fun w' hSw => by (try dsimp only at hSw); go_simp) (by assumption) ?_
        try simp only [Act.put, xg0, xg1, xg2, xs0, xs1, xs2]
        refine tk1 2 (.bool true) rfl (fun w' hSw => by (try dsimp only at hSw); go_simp) (by assumption) ?_
        try simp only [Act.put, xg0, xg1, xg2, xs0, xs1, xs2]
        refine tk1 3 (.func (.func 70) #[] #[]) rfl (fun w' hSw => by (try dsimp only at hSw); go_simp) (by assumption) ?_
        try simp only [Act.put, xg0, xg1, xg2, xs0, xs1, xs2]
        refine tk1 4 (.agg #[.int .i64 e, .int .i64 a, .int .i64 b]) rfl (fun w' hSw => by (try dsimp only at hSw); go_simp) (by assumption) ?_
        try simp only [Act.put, xg0, xg1, xg2, xs0, xs1, xs2]
        refine tk1 6 (.func (.func 70) #[] #[]) rfl (fun w' hSw => by (try dsimp only at hSw); go_simp) (by assumption) ?_
        try simp only [Act.put, xg0, xg1, xg2, xs0, xs1, xs2]
        refine tk1 7 (.slice (some ad) l.length c) rfl (fun w' hSw => by (try dsimp only at hSw); go_simp) (by assumption) ?_
        try simp only [Act.put, xg0, xg1, xg2, xs0, xs1, xs2]
        refine tk1 8 (.int .i64 (i : Int)) rfl (fun w' hSw => by (try dsimp only at hSw); go_simp) (by assumption) ?_
        try simp only [Act.put, xg0, xg1, xg2, xs0, xs1, xs2]
        refine tk1 9 (.int .i64 ((i - 1 : Nat) : Int)) rfl (fun w' hSw => by (try dsimp only at hSw); go_simp) (by assumption) ?_
        try simp only [Act.put, xg0, xg1, xg2, xs0, xs1, xs2]
        refine tk1 10 (.pointer (some (ad.add ((i - 1) * 3)))) rfl (fun w' hSw => by (try dsimp only at hSw); go_simp) (by assumption) ?_
        try simp only [Act.put, xg0, xg1, xg2, xs0, xs1, xs2]
        refine tk1 11 (.agg #[.int .i64 e', .int .i64 a', .int .i64 b']) rfl (fun w' hSw => by (try dsimp only at hSw); go_simp) (by assumption) ?_
        try simp only [Act.put, xg0, xg1, xg2, xs0, xs1, xs2]
        refine wpAnyH_ready (rs := [5]) (by kernel_rfl) (by simp) ?_
        refine AllReadyH.cons (o := _) rfl (fun K hK => ?_) AllReadyH.nil
        go_simp
        refine (f_sky1 _ _ _ _).mono ?_
        rintro e7 w7 ⟨rfl, hb7⟩
        go_wp2_with fail
        refine hK.out _ _ (keep6 hb7 (by assumption)) (fun hHeld => ?_)
        clear hK K
        try simp only [Act.put, xg0, xg1, xg2, xs0, xs1, xs2]
        refine wpAnyH_ready (rs := [12]) (by kernel_rfl) (by simp) ?_
        refine AllReadyH.cons (o := _) rfl (fun K hK => ?_) AllReadyH.nil
        go_simp
        refine (f_sky1 _ _ _ _).mono ?_
        rintro e8 w8 ⟨rfl, hb7⟩
        go_wp2_with fail
        refine hK.out _ _ (keep6 hb7 (by assumption)) (fun hHeld => ?_)
        clear hK K
        try simp only [Act.put, xg0, xg1, xg2, xs0, xs1, xs2]
        refine tk1 13 (.bool false) rfl (fun w' hSw => by (try dsimp only at hSw); go_simp) (by assumption) ?_
        try simp only [Act.put, xg0, xg1, xg2, xs0, xs1, xs2]
        refine tk1 14 (.bool false) rfl (fun w' hSw => by (try dsimp only at hSw); go_simp) (by assumption) ?_
        try simp only [Act.put, xg0, xg1, xg2, xs0, xs1, xs2]
        refine tk1 15 (.func (.func 72) #[] #[]) rfl (fun w' hSw => by (try dsimp only at hSw); go_simp) (by assumption) ?_
        try simp only [Act.put, xg0, xg1, xg2, xs0, xs1, xs2]
        refine tk1 16 (.func (.func 71) #[] #[]) rfl (fun w' hSw => by (try dsimp only at hSw); go_simp) (by assumption) ?_
        try simp only [Act.put, xg0, xg1, xg2, xs0, xs1, xs2]
        refine tk1 17 (.slice (some ad) l.length c) rfl (fun w' hSw => by (try dsimp only at hSw); go_simp) (by assumption) ?_
        try simp only [Act.put, xg0, xg1, xg2, xs0, xs1, xs2]
        refine tk1 18 (.int .i64 (i : Int)) rfl (fun w' hSw => by (try dsimp only at hSw); go_simp) (by assumption) ?_
        try simp only [Act.put, xg0, xg1, xg2, xs0, xs1, xs2]
        refine tk1 19 (.int .i64 ((i - 1 : Nat) : Int)) rfl (fun w' hSw => by (try dsimp only at hSw); go_simp) (by assumption) ?_
        try simp only [Act.put, xg0, xg1, xg2, xs0, xs1, xs2]
        refine tk1 20 (.pointer (some (ad.add ((i - 1) * 3)))) rfl (fun w' hSw => by (try dsimp only at hSw); go_simp) (by assumption) ?_
        try simp only [Act.put, xg0, xg1, xg2, xs0, xs1, xs2]
        refine tk1 21 (.agg #[.int .i64 e', .int .i64 a', .int .i64 b']) rfl (fun w' hSw => by (try dsimp only at hSw); go_simp) (by assumption) ?_
        try simp only [Act.put, xg0, xg1, xg2, xs0, xs1, xs2]
        refine tk1 23 (.func (.func 71) #[] #[]) rfl (fun w' hSw => by (try dsimp only at hSw); go_simp) (by assumption) ?_
        try simp only [Act.put, xg0, xg1, xg2, xs0, xs1, xs2]
        refine tk1 24 (.agg #[.int .i64 e, .int .i64 a, .int .i64 b]) rfl (fun w' hSw => by (try dsimp only at hSw); go_simp) (by assumption) ?_
        try simp only [Act.put, xg0, xg1, xg2, xs0, xs1, xs2]
        refine wpAnyH_ready (rs := [22]) (by kernel_rfl) (by simp) ?_
        refine AllReadyH.cons (o := _) rfl (fun K hK => ?_) AllReadyH.nil
        go_simp
        refine (f_sky2 _ _ _ _).mono ?_
        rintro e9 w9 ⟨rfl, hb7⟩
        go_wp2_with fail
        refine hK.out _ _ (keep6 hb7 (by assumption)) (fun hHeld => ?_)
        clear hK K
        try simp only [Act.put, xg0, xg1, xg2, xs0, xs1, xs2]
        refine wpAnyH_ready (rs := [25]) (by kernel_rfl) (by simp) ?_
        refine AllReadyH.cons (o := _) rfl (fun K hK => ?_) AllReadyH.nil
        go_simp
        refine (f_sky2 _ _ _ _).mono ?_
        rintro e10 w10 ⟨rfl, hb7⟩
        go_wp2_with fail
        refine hK.out _ _ (keep6 hb7 (by assumption)) (fun hHeld => ?_)
        clear hK K
        try simp only [Act.put, xg0, xg1, xg2, xs0, xs1, xs2]
        refine wpAnyH_ready (rs := [26]) (by kernel_rfl) (by simp) ?_
        refine AllReadyH.cons (o := _) rfl (fun K hK => ?_) AllReadyH.nil
        go_simp
        refine (f_down _ _ _ _ _ (by omega) (by omega)).mono ?_
        rintro e11 w11 ⟨rfl, hb7⟩
        go_wp2_with fail
        refine hK.out _ _ (keep6 hb7 (by assumption)) (fun hHeld => ?_)
        clear hK K
        try simp only [Act.put, xg0, xg1, xg2, xs0, xs1, xs2]
        refine tk1 27 (.bool false) rfl (fun w' hSw => by (try dsimp only at hSw); go_simp) (by assumption) ?_
        try simp only [Act.put, xg0, xg1, xg2, xs0, xs1, xs2]
        refine tk1 28 (.bool false) rfl (fun w' hSw => by (try dsimp only at hSw); go_simp) (by assumption) ?_
        try simp only [Act.put, xg0, xg1, xg2, xs0, xs1, xs2]
        refine tk1 29 (.bool false) rfl (fun w' hSw => by (try dsimp only at hSw); go_simp) (by assumption) ?_
        try simp only [Act.put, xg0, xg1, xg2, xs0, xs1, xs2]
        refine wpAnyH_done (by kernel_rfl) ?_ _
        go_wp2_with fail
        have hz := (HB.out.trans (HB5.out.mono HB.out.size)).drew
        exact ⟨⟨i + 1, by go_num, by omega, Lib.hid (hz.trans (hHeld.1.mono hz.size))⟩, by simp [intOf]; omega⟩
    · obtain rfl : i = l.length := by omega
      go_wp2_with fail
      refine (f_within _ _ _ _ (by omega) (by omega)).mono ?_
      rintro e3 w3 ⟨rfl, rfl⟩
      go_wp2
      go_ret
      exact ⟨rfl, HB.out⟩

def mono_rngG (l : List S66) (most : Int) : Prop := ∀ i : Nat, i < l.length → 1 ≤ (rd_T66 l i).f0 ∧ (rd_T66 l i).f0 ≤ 1000000 ∧ 0 ≤ (rd_T66 l i).f1.f0 ∧ (rd_T66 l i).f1.f0 ≤ (rd_T66 l i).f1.f1 ∧ (rd_T66 l i).f1.f1 ≤ most ∧
  (0 < i → (rd_T66 l (i - 1 : Nat)).f0 < (rd_T66 l i).f0 ∧ (rd_T66 l (i - 1 : Nat)).f1.f0 ≤ (rd_T66 l i).f1.f0 ∧ (rd_T66 l (i - 1 : Nat)).f1.f1 ≤ (rd_T66 l i).f1.f1)
set_option maxRecDepth 100000 in
set_option maxHeartbeats 4000000 in
theorem mono_rng (A : Option Addr) (c : Nat) (l : List S66) (most : Int) (w : World) (hr : Kd.C k66 w A l.length l) (hc : l.length ≤ c) (hn : 1 ≤ l.length) (hn2 : l.length ≤ 40) (hg : mono_rngG l most) :
    Calls Try.prog 74 #[.slice A l.length c, .int .i64 1, .int .i64 1000000, .func (.func 75) #[] #[], .func (.func 76) #[] #[], .int .i64 most, .func (.func 77) #[] #[]] w fun e w' => e = .returned (.bool true) ∧ Below w.heap.size w w' := by
  have HC := Lib.hid hr
  have HG := Lib.hid hg
  clear hr hg
  go_enter Try.func74, Try.ntmps74
  go_wp2_with fail
  go_loopw [19] (fun v19 wr => ∃ i : Nat, v19 = .int .i64 i ∧ i ≤ l.length ∧ Hid (Below w.heap.size w wr)) (fun v19 _ => l.length - (intOf v19).toNat)
  case atStart => exact ⟨0, rfl, by omega, Lib.hid (Below.refl _ _)⟩
  case round =>
    obtain ⟨i, rfl, hi, HB⟩ := hrel
    by_cases hlt : i < l.length
    · obtain ⟨g1, g2, g3, g4, g5, g6⟩ := HG.out i hlt
      obtain ⟨ad, hA, x1, x2, x3⟩ := at_T66 (Kd.C_below HC.out HB.out) (i : Int) (by omega) (by omega)
      subst hA
      generalize hR : rd_T66 l i = R at *
      obtain ⟨e, s⟩ := R
      obtain ⟨a, b⟩ := s
      simp only [Int.toNat_natCast] at x1 x2 x3 g1 g2 g3 g4 g5 g6
      have hlti : (i : Int) < (l.length : Int) := by omega
      rcases Nat.eq_zero_or_pos i with h0 | h0
      · have HZ := Lib.hid h0
        clear h0
        go_wp2_with fail
        refine (f_rng1 _ _ _ _).mono ?_
        rintro e2 w2 ⟨rfl, hb2⟩
        have y0 := cell_kb hb2 (cell_new0 wr _ _ _ _)
        have y1 := cell_kb hb2 (cell_new1 wr _ _ _ _)
        have y2 := cell_kb hb2 (cell_new2 wr _ _ _ _)
        have HB2 := Lib.hid (((Below.refl wr.heap.size wr).alloc (Nat.le_refl _) _).trans (hb2.mono (by simp)))
        clear hb2
        go_wp2_with fail
        refine (f_within _ _ _ _ g1 g2).mono ?_
        rintro e3 w3 ⟨rfl, rfl⟩
        go_wp2_with fail
        refine (f_rng2 _ _ _ _).mono ?_
        rintro e4 w4 ⟨rfl, hb4⟩
        have z0 := cell_kb hb4 y0
        have z1 := cell_kb hb4 y1
        have z2 := cell_kb hb4 y2
        have HB4 := Lib.hid (HB2.out.trans (hb4.mono HB2.out.size))
        clear hb4 y0 y1 y2
        go_wp2_with fail
        refine (f_spanned _ _ _ _ _ g3 g4 g5).mono ?_
        rintro e5 w5 ⟨rfl, hb5⟩
        have y0 := cell_kb hb5 z0
        have y1 := cell_kb hb5 z1
        have y2 := cell_kb hb5 z2
        have HB5 := Lib.hid (HB4.out.trans (hb5.mono HB4.out.size))
        clear hb5 z0 z1 z2
        go_wp2_with fail
        obtain rfl := HZ.out
        refine wp_region_held_drew (S := fun w' => Below w5.drew.heap.size w5.drew w') (by kernel_rfl) (Below.refl _ _) (fun hS0 => ?_)
        refine tk1 0 (.int .i64 ((0 : Nat) : Int)) rfl (fun w' hSw => by (try dsimp only at hSw); go_simp) (by assumption) ?_
        try simp only [Act.put, xg0, xg1, xg2, xs0, xs1, xs2]
        refine tk1 1 (.bool false) rfl (fun w' hSw => by (try dsimp only at hSw); go_simp) (by assumption) ?_
        try simp only [Act.put, xg0, xg1, xg2, xs0, xs1, xs2]
        refine tk1 2 (.bool false) rfl (fun w' hSw => by (try dsimp only at hSw); go_simp) (by assumption) ?_
        try simp only [Act.put, xg0, xg1, xg2, xs0, xs1, xs2]
        refine tk2 3 rfl (by assumption) ?_
        try simp only [Act.put, xg0, xg1, xg2, xs0, xs1, xs2]
        refine tk2 4 rfl (by assumption) ?_
        try simp only [Act.put, xg0, xg1, xg2, xs0, xs1, xs2]
        refine tk2 5 rfl (by assumption) ?_
        try simp only [Act.put, xg0, xg1, xg2, xs0, xs1, xs2]
        refine tk2 6 rfl (by assumption) ?_
        try simp only [Act.put, xg0, xg1, xg2, xs0, xs1, xs2]
        refine tk2 7 rfl (by assumption) ?_
        try simp only [Act.put, xg0, xg1, xg2, xs0, xs1, xs2]
        refine tk2 8 rfl (by assumption) ?_
        try simp only [Act.put, xg0, xg1, xg2, xs0, xs1, xs2]
        refine tk2 9 rfl (by assumption) ?_
        try simp only [Act.put, xg0, xg1, xg2, xs0, xs1, xs2]
        refine tk2 10 rfl (by assumption) ?_
        try simp only [Act.put, xg0, xg1, xg2, xs0, xs1, xs2]
        refine tk2 11 rfl (by assumption) ?_
        try simp only [Act.put, xg0, xg1, xg2, xs0, xs1, xs2]
        refine tk2 12 rfl (by assumption) ?_
        try simp only [Act.put, xg0, xg1, xg2, xs0, xs1, xs2]
        refine tk2 13 rfl (by assumption) ?_
        try simp only [Act.put, xg0, xg1, xg2, xs0, xs1, xs2]
        refine tk2 14 rfl (by assumption) ?_
        try simp only [Act.put, xg0, xg1, xg2, xs0, xs1, xs2]
        refine tk2 15 rfl (by assumption) ?_
        try simp only [Act.put, xg0, xg1, xg2, xs0, xs1, xs2]
        refine tk2 16 rfl (by assumption) ?_
        try simp only [Act.put, xg0, xg1, xg2, xs0, xs1, xs2]
        refine tk2 17 rfl (by assumption) ?_
        try simp only [Act.put, xg0, xg1, xg2, xs0, xs1, xs2]
        refine tk2 18 rfl (by assumption) ?_
        try simp only [Act.put, xg0, xg1, xg2, xs0, xs1, xs2]
        refine tk2 19 rfl (by assumption) ?_
        try simp only [Act.put, xg0, xg1, xg2, xs0, xs1, xs2]
        refine tk2 20 rfl (by assumption) ?_
        try simp only [Act.put, xg0, xg1, xg2, xs0, xs1, xs2]
        refine tk2 21 rfl (by assumption) ?_
        try simp only [Act.put, xg0, xg1, xg2, xs0, xs1, xs2]
        refine tk2 22 rfl (by assumption) ?_
        try simp only [Act.put, xg0, xg1, xg2, xs0, xs1, xs2]
        refine tk2 23 rfl (by assumption) ?_
        try simp only [Act.put, xg0, xg1, xg2, xs0, xs1, xs2]
        refine tk2 24 rfl (by assumption) ?_
        try simp only [Act.put, xg0, xg1, xg2, xs0, xs1, xs2]
        refine tk2 25 rfl (by assumption) ?_
        try simp only [Act.put, xg0, xg1, xg2, xs0, xs1, xs2]
        refine tk2 26 rfl (by assumption) ?_
        try simp only [Act.put, xg0, xg1, xg2, xs0, xs1, xs2]
        refine tk2 27 rfl (by assumption) ?_
        try simp only [Act.put, xg0, xg1, xg2, xs0, xs1, xs2]
        refine tk2 28 rfl (by assumption) ?_
        try simp only [Act.put, xg0, xg1, xg2, xs0, xs1, xs2]
        refine tk1 29 (.bool false) rfl (fun w' hSw => by (try dsimp only at hSw); go_simp) (by assumption) ?_
        try simp only [Act.put, xg0, xg1, xg2, xs0, xs1, xs2]
        refine wpAnyH_done (by kernel_rfl) ?_ _
        go_wp2_with fail
        exact ⟨⟨1, rfl, by omega, Lib.hid (HB.out.trans (HB5.out.mono HB.out.size)).drew⟩, by simp [intOf]; omega⟩
      · have hd0 : decide ((0 : Int) < (i : Int)) = true := decide_eq_true (by omega)
        have hwr : IntKind.i64.wrap ((i : Int) - 1) = ((i - 1 : Nat) : Int) := by rw [IntKind.wrap_i64]; omega
        have hj : ((i - 1 : Nat) : Int) < (l.length : Int) := by omega
        obtain ⟨ad', hA', v1, v2, v3⟩ := at_T66 (Kd.C_below HC.out HB.out) ((i - 1 : Nat) : Int) (by omega) (by omega)
        cases hA'
        generalize hR' : rd_T66 l (i - 1 : Nat) = R' at *
        obtain ⟨e', s'⟩ := R'
        obtain ⟨a', b'⟩ := s'
        have h6 := g6 h0
        obtain ⟨k1, k2, k3⟩ := h6
        simp only [Int.toNat_natCast] at v1 v2 v3 k1 k2 k3
        have kd : decide (e ≤ e') = false := decide_eq_false (by omega)
        clear g6
        go_wp2_with fail
        refine (f_rng1 _ _ _ _).mono ?_
        rintro e2 w2 ⟨rfl, hb2⟩
        have y0 := cell_kb hb2 (cell_new0 wr _ _ _ _)
        have y1 := cell_kb hb2 (cell_new1 wr _ _ _ _)
        have y2 := cell_kb hb2 (cell_new2 wr _ _ _ _)
        have HB2 := Lib.hid (((Below.refl wr.heap.size wr).alloc (Nat.le_refl _) _).trans (hb2.mono (by simp)))
        clear hb2
        go_wp2_with fail
        refine (f_within _ _ _ _ g1 g2).mono ?_
        rintro e3 w3 ⟨rfl, rfl⟩
        go_wp2_with fail
        refine (f_rng2 _ _ _ _).mono ?_
        rintro e4 w4 ⟨rfl, hb4⟩
        have z0 := cell_kb hb4 y0
        have z1 := cell_kb hb4 y1
        have z2 := cell_kb hb4 y2
        have HB4 := Lib.hid (HB2.out.trans (hb4.mono HB2.out.size))
        clear hb4 y0 y1 y2
        go_wp2_with fail
        refine (f_spanned _ _ _ _ _ g3 g4 g5).mono ?_
        rintro e5 w5 ⟨rfl, hb5⟩
        have y0 := cell_kb hb5 z0
        have y1 := cell_kb hb5 z1
        have y2 := cell_kb hb5 z2
        have HB5 := Lib.hid (HB4.out.trans (hb5.mono HB4.out.size))
        clear hb5 z0 z1 z2
        go_wp2_with fail
        have p1 := cell_kb HB5.out v1
        have p2 := cell_kb HB5.out v2
        have p3 := cell_kb HB5.out v3
        refine wp_region_held_drew (S := fun w' => Below w5.drew.heap.size w5.drew w' ∧ w'.cell? ⟨wr.heap.size, 0, none⟩ = some (.int .i64 e) ∧ w'.cell? ⟨wr.heap.size, 1, none⟩ = some (.int .i64 a) ∧ w'.cell? ⟨wr.heap.size, 2, none⟩ = some (.int .i64 b) ∧ w'.cell? (ad.add ((i - 1) * 3)) = some (.int .i64 e') ∧ w'.cell? ⟨(ad.add ((i - 1) * 3)).block, (ad.add ((i - 1) * 3)).off + 1, none⟩ = some (.int .i64 a') ∧ w'.cell? ⟨(ad.add ((i - 1) * 3)).block, (ad.add ((i - 1) * 3)).off + 2, none⟩ = some (.int .i64 b')) (by kernel_rfl) ⟨Below.refl _ _, y0, y1, y2, p1, p2, p3⟩ (fun hS0 => ?_)
        refine tk1 0 (.int .i64 (i : Int)) rfl (fun w' hSw => by (try dsimp only at hSw); go_simp) (by assumption) ?_
        try simp only [Act.put, xg0, xg1, xg2, xs0, xs1, xs2]
        refine tk1 1 (.bool true) rfl (fun w' hSw => by (try dsimp only at hSw); go_simp) (by assumption) ?_
        try simp only [Act.put, xg0, xg1, xg2, xs0, xs1, xs2]
        refine tk1 2 (.bool true) rfl (fun w' hSw => by (try dsimp only at hSw); go_simp) (by assumption) ?_
        try simp only [Act.put, xg0, xg1, xg2, xs0, xs1, xs2]
        refine tk1 3 (.func (.func 75) #[] #[]) rfl (fun w' hSw => by (try dsimp only at hSw); go_simp) (by assumption) ?_
        try simp only [Act.put, xg0, xg1, xg2, xs0, xs1, xs2]
        refine tk1 4 (.agg #[.int .i64 e, .int .i64 a, .int .i64 b]) rfl (fun w' hSw => by (try dsimp only at hSw); go_simp) (by assumption) ?_
        try simp only [Act.put, xg0, xg1, xg2, xs0, xs1, xs2]
        refine tk1 6 (.func (.func 75) #[] #[]) rfl (fun w' hSw => by (try dsimp only at hSw); go_simp) (by assumption) ?_
        try simp only [Act.put, xg0, xg1, xg2, xs0, xs1, xs2]
        refine tk1 7 (.slice (some ad) l.length c) rfl (fun w' hSw => by (try dsimp only at hSw); go_simp) (by assumption) ?_
        try simp only [Act.put, xg0, xg1, xg2, xs0, xs1, xs2]
        refine tk1 8 (.int .i64 (i : Int)) rfl (fun w' hSw => by (try dsimp only at hSw); go_simp) (by assumption) ?_
        try simp only [Act.put, xg0, xg1, xg2, xs0, xs1, xs2]
        refine tk1 9 (.int .i64 ((i - 1 : Nat) : Int)) rfl (fun w' hSw => by (try dsimp only at hSw); go_simp) (by assumption) ?_
        try simp only [Act.put, xg0, xg1, xg2, xs0, xs1, xs2]
        refine tk1 10 (.pointer (some (ad.add ((i - 1) * 3)))) rfl (fun w' hSw => by (try dsimp only at hSw); go_simp) (by assumption) ?_
        try simp only [Act.put, xg0, xg1, xg2, xs0, xs1, xs2]
        refine tk1 11 (.agg #[.int .i64 e', .int .i64 a', .int .i64 b']) rfl (fun w' hSw => by (try dsimp only at hSw); go_simp) (by assumption) ?_
        try simp only [Act.put, xg0, xg1, xg2, xs0, xs1, xs2]
        refine wpAnyH_ready (rs := [5]) (by kernel_rfl) (by simp) ?_
        refine AllReadyH.cons (o := _) rfl (fun K hK => ?_) AllReadyH.nil
        go_simp
        refine (f_rng1 _ _ _ _).mono ?_
        rintro e7 w7 ⟨rfl, hb7⟩
        go_wp2_with fail
        refine hK.out _ _ (keep6 hb7 (by assumption)) (fun hHeld => ?_)
        clear hK K
        try simp only [Act.put, xg0, xg1, xg2, xs0, xs1, xs2]
        refine wpAnyH_ready (rs := [12]) (by kernel_rfl) (by simp) ?_
        refine AllReadyH.cons (o := _) rfl (fun K hK => ?_) AllReadyH.nil
        go_simp
        refine (f_rng1 _ _ _ _).mono ?_
        rintro e8 w8 ⟨rfl, hb7⟩
        go_wp2_with fail
        refine hK.out _ _ (keep6 hb7 (by assumption)) (fun hHeld => ?_)
        clear hK K
        try simp only [Act.put, xg0, xg1, xg2, xs0, xs1, xs2]
        refine tk1 13 (.bool false) rfl (fun w' hSw => by (try dsimp only at hSw); go_simp) (by assumption) ?_
        try simp only [Act.put, xg0, xg1, xg2, xs0, xs1, xs2]
        refine tk1 14 (.bool false) rfl (fun w' hSw => by (try dsimp only at hSw); go_simp) (by assumption) ?_
        try simp only [Act.put, xg0, xg1, xg2, xs0, xs1, xs2]
        refine tk1 15 (.func (.func 77) #[] #[]) rfl (fun w' hSw => by (try dsimp only at hSw); go_simp) (by assumption) ?_
        try simp only [Act.put, xg0, xg1, xg2, xs0, xs1, xs2]
        refine tk1 16 (.func (.func 76) #[] #[]) rfl (fun w' hSw => by (try dsimp only at hSw); go_simp) (by assumption) ?_
        try simp only [Act.put, xg0, xg1, xg2, xs0, xs1, xs2]
        refine tk1 17 (.slice (some ad) l.length c) rfl (fun w' hSw => by (try dsimp only at hSw); go_simp) (by assumption) ?_
        try simp only [Act.put, xg0, xg1, xg2, xs0, xs1, xs2]
        refine tk1 18 (.int .i64 (i : Int)) rfl (fun w' hSw => by (try dsimp only at hSw); go_simp) (by assumption) ?_
        try simp only [Act.put, xg0, xg1, xg2, xs0, xs1, xs2]
        refine tk1 19 (.int .i64 ((i - 1 : Nat) : Int)) rfl (fun w' hSw => by (try dsimp only at hSw); go_simp) (by assumption) ?_
        try simp only [Act.put, xg0, xg1, xg2, xs0, xs1, xs2]
        refine tk1 20 (.pointer (some (ad.add ((i - 1) * 3)))) rfl (fun w' hSw => by (try dsimp only at hSw); go_simp) (by assumption) ?_
        try simp only [Act.put, xg0, xg1, xg2, xs0, xs1, xs2]
        refine tk1 21 (.agg #[.int .i64 e', .int .i64 a', .int .i64 b']) rfl (fun w' hSw => by (try dsimp only at hSw); go_simp) (by assumption) ?_
        try simp only [Act.put, xg0, xg1, xg2, xs0, xs1, xs2]
        refine tk1 23 (.func (.func 76) #[] #[]) rfl (fun w' hSw => by (try dsimp only at hSw); go_simp) (by assumption) ?_
        try simp only [Act.put, xg0, xg1, xg2, xs0, xs1, xs2]
        refine tk1 24 (.agg #[.int .i64 e, .int .i64 a, .int .i64 b]) rfl (fun w' hSw => by (try dsimp only at hSw); go_simp) (by assumption) ?_
        try simp only [Act.put, xg0, xg1, xg2, xs0, xs1, xs2]
        refine wpAnyH_ready (rs := [22]) (by kernel_rfl) (by simp) ?_
        refine AllReadyH.cons (o := _) rfl (fun K hK => ?_) AllReadyH.nil
        go_simp
        refine (f_rng2 _ _ _ _).mono ?_
        rintro e9 w9 ⟨rfl, hb7⟩
        go_wp2_with fail
        refine hK.out _ _ (keep6 hb7 (by assumption)) (fun hHeld => ?_)
        clear hK K
        try simp only [Act.put, xg0, xg1, xg2, xs0, xs1, xs2]
        refine wpAnyH_ready (rs := [25]) (by kernel_rfl) (by simp) ?_
        refine AllReadyH.cons (o := _) rfl (fun K hK => ?_) AllReadyH.nil
        go_simp
        refine (f_rng2 _ _ _ _).mono ?_
        rintro e10 w10 ⟨rfl, hb7⟩
        go_wp2_with fail
        refine hK.out _ _ (keep6 hb7 (by assumption)) (fun hHeld => ?_)
        clear hK K
        try simp only [Act.put, xg0, xg1, xg2, xs0, xs1, xs2]
        refine wpAnyH_ready (rs := [26]) (by kernel_rfl) (by simp) ?_
        refine AllReadyH.cons (o := _) rfl (fun K hK => ?_) AllReadyH.nil
        go_simp
        refine (f_up _ _ _ _ _ (by omega) (by omega)).mono ?_
        rintro e11 w11 ⟨rfl, hb7⟩
        go_wp2_with fail
        refine hK.out _ _ (keep6 hb7 (by assumption)) (fun hHeld => ?_)
        clear hK K
        try simp only [Act.put, xg0, xg1, xg2, xs0, xs1, xs2]
        refine tk1 27 (.bool false) rfl (fun w' hSw => by (try dsimp only at hSw); go_simp) (by assumption) ?_
        try simp only [Act.put, xg0, xg1, xg2, xs0, xs1, xs2]
        refine tk1 28 (.bool false) rfl (fun w' hSw => by (try dsimp only at hSw); go_simp) (by assumption) ?_
        try simp only [Act.put, xg0, xg1, xg2, xs0, xs1, xs2]
        refine tk1 29 (.bool false) rfl (fun w' hSw => by (try dsimp only at hSw); go_simp) (by assumption) ?_
        try simp only [Act.put, xg0, xg1, xg2, xs0, xs1, xs2]
        refine wpAnyH_done (by kernel_rfl) ?_ _
        go_wp2_with fail
        have hz := (HB.out.trans (HB5.out.mono HB.out.size)).drew
        exact ⟨⟨i + 1, by go_num, by omega, Lib.hid (hz.trans (hHeld.1.mono hz.size))⟩, by simp [intOf]; omega⟩
    · obtain rfl : i = l.length := by omega
      go_wp2_with fail
      refine (f_within _ _ _ _ (by omega) (by omega)).mono ?_
      rintro e3 w3 ⟨rfl, rfl⟩
      go_wp2
      go_ret
      exact ⟨rfl, HB.out⟩
end Go.Proofs.Yteigcddmbpfahaa.Cn
end
section
namespace Go.Proofs.Yteigcddmbpfahaa.Cn
set_option linter.unusedVariables false
open Go.RowKit Go.Proofs.YteigcddmbpfahaaW.PrintWords Go.Proofs.YteigcddmbpfahaaW.PrintLast Go.Proofs.YteigcddmbpfahaaW.PrintMore

theorem addr_add0 (p : Addr) : p.add 0 = p := by simp [Addr.add]
def RngG (l : List S66) : Prop := 1 ≤ l.length ∧ l.length ≤ 40 ∧ mono_rngG l 1000000
def BinG (P : Int) (l : List S102) : Prop := 1 ≤ l.length ∧ l.length ≤ 40 ∧ mono_skyG l P ∧ (rd_T102 l 0).f0 = 1
structure SkyG (P : Int) (bins : List (List S102)) (b0 b1 a0 a1 : Int) : Prop where
  p2 : 2 ≤ P
  p3 : P ≤ 1000000
  n1 : 1 ≤ bins.length
  n2 : bins.length ≤ 20
  b : -100 ≤ b0 ∧ b0 ≤ b1 ∧ b1 ≤ 100
  a : -100 ≤ a0 ∧ a0 ≤ a1 ∧ a1 ≤ 100
  bin : ∀ k : Nat, k < bins.length → BinG P (rd_L3 bins k)

theorem f_ranged (A : Option Addr) (c : Nat) (l : List S66) (w : World) (hr : Kd.C k66 w A l.length l) (hc : l.length ≤ c) (hg : RngG l) :
    Calls Try.prog 53 #[.slice A l.length c] w fun e w' => e = .returned (.bool true) ∧ Below w.heap.size w w' := by
  have HM := Lib.hid (mono_rng A c l 1000000 w hr hc hg.1 hg.2.1 hg.2.2)
  clear hr hg
  go_enter Try.func53, Try.ntmps53
  go_wp2_with fail
  refine HM.out.mono ?_
  rintro e w' ⟨rfl, hb⟩
  have HB := Lib.hid hb
  clear hb
  go_wp2
  go_ret
  exact ⟨rfl, HB.out⟩

set_option maxRecDepth 100000 in
set_option maxHeartbeats 4000000 in
theorem f_skied (A : Option Addr) (c : Nat) (bins : List (List S102)) (P b0 b1 a0 a1 : Int) (w : World) (hr : Kd.C (Kd.slice 102 k102) w A bins.length bins) (hc : bins.length ≤ c) (hg : SkyG P bins b0 b1 a0 a1) :
    Calls Try.prog 52 #[.agg #[.int .i64 P, .slice A bins.length c, .int .i64 b0, .int .i64 b1, .int .i64 a0, .int .i64 a1]] w fun e w' => e = .returned (.bool true) ∧ Below w.heap.size w w' := by
  have HC := Lib.hid hr
  have hn20 := hg.n2
  have HG := Lib.hid hg
  clear hr hg
  go_enter Try.func52, Try.ntmps52
  go_wp2_with fail
  obtain ⟨wa, hwa⟩ : ∃ wa, wa = w.alloc (.cells #[.int .i64 P, .slice A bins.length c, .int .i64 b0, .int .i64 b1, .int .i64 a0, .int .i64 a1] 26 (0, 0)) := ⟨_, rfl⟩
  have hb1 : Blk wa w.heap.size #[.int .i64 P, .slice A bins.length c, .int .i64 b0, .int .i64 b1, .int .i64 a0, .int .i64 a1] 26 := by rw [hwa]; exact Blk.new w _ _
  have hw1 : Below w.heap.size w wa := by rw [hwa]; exact (Below.refl w.heap.size w).alloc (Nat.le_refl _) _
  rw [← hwa]
  have HW1 := Lib.hid hw1
  have HB1 := Lib.hid hb1
  clear hw1 hb1 hwa
  go_loopw [8] (fun v8 wr => ∃ i : Nat, v8 = .int .i64 i ∧ i ≤ bins.length ∧ Hid (Below wa.heap.size wa wr)) (fun v8 _ => bins.length - (intOf v8).toNat)
  case atStart => exact ⟨0, rfl, by omega, Lib.hid (Below.refl _ _)⟩
  case round =>
    obtain ⟨i, rfl, hi, HB⟩ := hrel
    have HBk := Lib.hid (HB1.out.below HB.out HB1.out.lt)
    have HBw := Lib.hid (HW1.out.trans (HB.out.mono HW1.out.size))
    have y0 := HBk.out.cell 0
    have y1 := HBk.out.cell 1
    have y2 := HBk.out.cell 2
    have y3 := HBk.out.cell 3
    have y4 := HBk.out.cell 4
    have y5 := HBk.out.cell 5
    simp at y0 y1 y2 y3 y4 y5
    by_cases hlt : i < bins.length
    · obtain ⟨n1, n2, hm, h1⟩ := HG.out.bin i hlt
      obtain ⟨ad, A0, c0, hA, x1, hc0, hC0⟩ := at_L3 (Kd.C_below HC.out HBw.out) (i : Int) (by omega) (by omega)
      subst hA
      generalize rd_L3 bins i = l at *
      have hlti : (i : Int) < (bins.length : Int) := by omega
      simp only [Int.toNat_natCast] at x1
      obtain ⟨ad0, hA0, z1, -, -⟩ := at_T102 hC0 0 (by omega) (by omega)
      subst hA0
      rw [h1] at z1
      have hl0 : 0 < l.length := by omega
      have HM := Lib.hid (mono_sky (some ad0) c0 l P wr hC0 hc0 n1 n2 hm)
      have HZ := Lib.hid z1
      clear hC0 hm h1 z1
      go_wp2_with fail
      refine HM.out.mono ?_
      rintro e2 w2 ⟨rfl, hb2⟩
      have z2 := cell_kb hb2 HZ.out
      simp only [Int.toNat_zero, Nat.zero_mul, addr_add0] at z2
      have HB2 := Lib.hid (HB.out.trans (hb2.mono HB.out.size))
      clear hb2
      go_wp2
      go_roundw
      case rel => exact ⟨i + 1, by go_num, by omega, HB2⟩
      case measure => simp [intOf]; omega
    · obtain rfl : i = bins.length := by omega
      have hg := HG.out
      have q := hg.p2
      have q1 := hg.p3
      have q2 := hg.n1
      have q3 := hg.n2
      obtain ⟨r1, r2, r3⟩ := hg.b
      obtain ⟨s1, s2, s3⟩ := hg.a
      clear hg
      go_wp2_with fail
      refine (f_within P 2 1000000 _ q q1).mono ?_
      rintro e2 w2 ⟨rfl, rfl⟩
      go_wp2_with fail
      refine (f_within _ _ _ _ (by omega) (by omega)).mono ?_
      rintro e2 w2 ⟨rfl, rfl⟩
      go_wp2_with fail
      refine (f_spanned _ _ _ _ _ r1 r2 r3).mono ?_
      rintro e2 w2 ⟨rfl, hb2⟩
      have t4 := cell_kb hb2 y4
      have t5 := cell_kb hb2 y5
      have HB2 := Lib.hid (HBw.out.trans (hb2.mono HBw.out.size))
      clear hb2 y4 y5
      go_wp2_with fail
      refine (f_spanned _ _ _ _ _ s1 s2 s3).mono ?_
      rintro e3 w3 ⟨rfl, hb3⟩
      have HB3 := Lib.hid (HB2.out.trans (hb3.mono HB2.out.size))
      clear hb3
      go_wp2
      go_ret
      exact ⟨rfl, HB3.out⟩
end Go.Proofs.Yteigcddmbpfahaa.Cn
end
section
namespace Go.Proofs.Yteigcddmbpfahaa.Cn
set_option linter.unusedVariables false
open Go.RowKit Go.Proofs.YteigcddmbpfahaaW.PrintWords Go.Proofs.YteigcddmbpfahaaW.PrintLast Go.Proofs.YteigcddmbpfahaaW.PrintMore

theorem findIdx_at {α : Type} {p : α → Bool} {l : List α} {z : α} {i : Nat} (hi : i < l.length) (h : ∀ j, j < i → p (l.getD j z) = false) (ht : p (l.getD i z) = true) : l.findIdx p = i := by
  rw [List.findIdx_eq hi]
  refine ⟨by simpa [List.getD, List.getElem?_eq_getElem hi] using ht, fun j hj => ?_⟩
  have := h j hj
  simpa [List.getD, List.getElem?_eq_getElem (show j < l.length by omega)] using this
theorem findIdx_no {α : Type} {p : α → Bool} {l : List α} {z : α} (h : ∀ j, j < l.length → p (l.getD j z) = false) : l.findIdx p = l.length := by
  rw [List.findIdx_eq_length]
  intro x hx
  obtain ⟨j, hj, rfl⟩ := List.mem_iff_getElem.1 hx
  have := h j hj
  simpa [List.getD, List.getElem?_eq_getElem hj] using this

theorem f_ab1_cl (e a b t : Int) (g : Nat) (w : World) (h1 : w.cell? ⟨g, 0, none⟩ = some (.int .i64 t)) :
    Calls Try.prog 79 #[.agg #[.int .i64 e, .int .i64 a, .int .i64 b], .pointer (some ⟨g, 0, none⟩)] w fun x w' => x = .returned (.bool (decide (t < e))) ∧ Below w.heap.size w w' := by
  have hlt := World.block_lt_of_cell? w _ h1
  have hx := ((Below.refl w.heap.size w).alloc (Nat.le_refl _) (.cells #[.int .i64 e, .int .i64 a, .int .i64 b] 102 (0, 0)))
  have h2 := cell_kb hx h1
  simp at hlt
  clear hx
  go_enter Try.func79, Try.ntmps79
  go_wp2
  go_ret
  exact ⟨rfl, by repeat (first | exact Below.refl _ _ | refine Below.alloc ?_ (by simp) _)⟩

set_option maxHeartbeats 1000000 in
theorem f_ab1_ix (A : Option Addr) (c : Nat) (l : List S102) (t : Int) (g : Nat) (w : World) (hr : Kd.C k102 w A l.length l) (hn2 : l.length ≤ 40) (h1 : w.cell? ⟨g, 0, none⟩ = some (.int .i64 t)) :
    Calls Try.prog 89 #[.slice A l.length c, .func (.func 79) #[] #[.pointer (some ⟨g, 0, none⟩)]] w fun e w' => e = .returned (.int .i64 (if l.findIdx (fun r : S102 => decide (t < r.f0)) < l.length then (l.findIdx (fun r : S102 => decide (t < r.f0)) : Int) else -1)) ∧ Below w.heap.size w w' := by
  obtain ⟨p, hp⟩ : ∃ p, p = (fun r : S102 => decide (t < r.f0)) := ⟨_, rfl⟩
  rw [← hp]
  obtain ⟨F, hF⟩ : ∃ F : Int, F = if l.findIdx p < l.length then (l.findIdx p : Int) else -1 := ⟨_, rfl⟩
  rw [← hF]
  have HF := Lib.hid hF
  clear hF
  have HP := Lib.hid hp
  have HC := Lib.hid hr
  have H1 := Lib.hid h1
  clear hr hp h1
  go_enter Try.func89, Try.ntmps89
  go_wp2_with fail
  go_loopw [8] (fun v8 wr => ∃ i : Nat, v8 = .int .i64 i ∧ i ≤ l.length ∧ Hid (∀ j, j < i → p (l.getD j z102) = false) ∧ Hid (Below w.heap.size w wr)) (fun v8 _ => l.length - (intOf v8).toNat)
  case atStart => exact ⟨0, rfl, by omega, Lib.hid (fun j hj => absurd hj (by omega)), Lib.hid (Below.refl _ _)⟩
  case round =>
    obtain ⟨i, rfl, hi, HN, HB⟩ := hrel
    by_cases hlt : i < l.length
    · obtain ⟨ad, hA, x1, x2, x3⟩ := at_T102 (Kd.C_below HC.out HB.out) (i : Int) (by omega) (by omega)
      subst hA
      have HQ := Lib.hid (show p (l.getD i z102) = p (rd_T102 l i) from by rw [rd_T102, Int.toNat_natCast])
      generalize hR : rd_T102 l i = R at *
      obtain ⟨e, s⟩ := R
      obtain ⟨a, b⟩ := s
      simp only [Int.toNat_natCast] at x1 x2 x3
      have hlti : (i : Int) < (l.length : Int) := by omega
      have hcl := f_ab1_cl e a b t g wr (cell_kb HB.out H1.out)
      rw [show decide (t < e) = p ⟨e, ⟨a, b⟩⟩ from by rw [HP.out]] at hcl
      have HCL := Lib.hid hcl
      clear hcl hR
      cases hq : p ⟨e, ⟨a, b⟩⟩
      · rw [hq] at HCL HQ
        clear hq
        go_wp2_with fail
        refine HCL.out.mono ?_
        rintro e2 w2 ⟨rfl, hb2⟩
        have HB2 := Lib.hid (HB.out.trans (hb2.mono HB.out.size))
        clear hb2
        go_wp2
        go_roundw
        case rel => exact ⟨i + 1, by go_num, by omega, Lib.hid (fun j hj => (Nat.lt_succ_iff_lt_or_eq.1 hj).elim (HN.out j) (fun h => by rw [h]; exact HQ.out)), HB2⟩
        case measure => simp [intOf]; omega
      · rw [hq] at HCL HQ
        clear hq
        go_wp2_with fail
        refine HCL.out.mono ?_
        rintro e2 w2 ⟨rfl, hb2⟩
        have HB2 := Lib.hid (HB.out.trans (hb2.mono HB.out.size))
        clear hb2
        go_wp2
        go_ret
        exact ⟨by rw [HF.out, findIdx_at hlt HN.out HQ.out, if_pos hlt]; rfl, HB2.out⟩
    · obtain rfl : i = l.length := by omega
      go_wp2
      go_ret
      exact ⟨by rw [HF.out, findIdx_no HN.out, if_neg (Nat.lt_irrefl _)]; rfl, HB.out⟩
theorem f_ab1_first (A : Option Addr) (c : Nat) (l : List S102) (t : Int) (g : Nat) (w : World) (hr : Kd.C k102 w A l.length l) (hn2 : l.length ≤ 40) (h1 : w.cell? ⟨g, 0, none⟩ = some (.int .i64 t)) :
    Calls Try.prog 78 #[.slice A l.length c, .func (.func 79) #[] #[.pointer (some ⟨g, 0, none⟩)]] w fun e w' => e = .returned (.int .i64 (l.findIdx (fun r : S102 => decide (t < r.f0)) : Int)) ∧ Below w.heap.size w w' := by
  have HX := Lib.hid (f_ab1_ix A c l t g w hr hn2 h1)
  have hle : l.findIdx (fun r : S102 => decide (t < r.f0)) ≤ l.length := List.findIdx_le_length
  generalize l.findIdx (fun r : S102 => decide (t < r.f0)) = f at *
  clear hr h1
  rcases Classical.em (f < l.length) with hf | hf
  · rw [if_pos hf] at HX
    have hd : decide ((f : Int) ≥ 0) = true := decide_eq_true (by omega)
    go_enter Try.func78, Try.ntmps78
    go_wp2_with fail
    refine HX.out.mono ?_
    rintro e2 w2 ⟨rfl, hb2⟩
    have HB2 := Lib.hid hb2
    clear hb2
    go_wp2
    go_ret
    exact ⟨rfl, HB2.out⟩
  · rw [if_neg hf] at HX
    obtain rfl : f = l.length := by omega
    go_enter Try.func78, Try.ntmps78
    go_wp2_with fail
    refine HX.out.mono ?_
    rintro e2 w2 ⟨rfl, hb2⟩
    have HB2 := Lib.hid hb2
    clear hb2
    go_wp2
    go_ret
    exact ⟨rfl, HB2.out⟩

theorem f_ab2_cl (e a b t : Int) (g : Nat) (w : World) (h1 : w.cell? ⟨g, 1, none⟩ = some (.int .i64 t)) :
    Calls Try.prog 80 #[.agg #[.int .i64 e, .int .i64 a, .int .i64 b], .pointer (some ⟨g, 0, none⟩)] w fun x w' => x = .returned (.bool (decide (t ≤ e))) ∧ Below w.heap.size w w' := by
  have hlt := World.block_lt_of_cell? w _ h1
  have hx := ((Below.refl w.heap.size w).alloc (Nat.le_refl _) (.cells #[.int .i64 e, .int .i64 a, .int .i64 b] 102 (0, 0)))
  have h2 := cell_kb hx h1
  simp at hlt
  clear hx
  go_enter Try.func80, Try.ntmps80
  go_wp2
  go_ret
  exact ⟨rfl, by repeat (first | exact Below.refl _ _ | refine Below.alloc ?_ (by simp) _)⟩

set_option maxHeartbeats 1000000 in
theorem f_ab2_ix (A : Option Addr) (c : Nat) (l : List S102) (t : Int) (g : Nat) (w : World) (hr : Kd.C k102 w A l.length l) (hn2 : l.length ≤ 40) (h1 : w.cell? ⟨g, 1, none⟩ = some (.int .i64 t)) :
    Calls Try.prog 89 #[.slice A l.length c, .func (.func 80) #[] #[.pointer (some ⟨g, 0, none⟩)]] w fun e w' => e = .returned (.int .i64 (if l.findIdx (fun r : S102 => decide (t ≤ r.f0)) < l.length then (l.findIdx (fun r : S102 => decide (t ≤ r.f0)) : Int) else -1)) ∧ Below w.heap.size w w' := by
  obtain ⟨p, hp⟩ : ∃ p, p = (fun r : S102 => decide (t ≤ r.f0)) := ⟨_, rfl⟩
  rw [← hp]
  obtain ⟨F, hF⟩ : ∃ F : Int, F = if l.findIdx p < l.length then (l.findIdx p : Int) else -1 := ⟨_, rfl⟩
  rw [← hF]
  have HF := Lib.hid hF
  clear hF
  have HP := Lib.hid hp
  have HC := Lib.hid hr
  have H1 := Lib.hid h1
  clear hr hp h1
  go_enter Try.func89, Try.ntmps89
  go_wp2_with fail
  go_loopw [8] (fun v8 wr => ∃ i : Nat, v8 = .int .i64 i ∧ i ≤ l.length ∧ Hid (∀ j, j < i → p (l.getD j z102) = false) ∧ Hid (Below w.heap.size w wr)) (fun v8 _ => l.length - (intOf v8).toNat)
  case atStart => exact ⟨0, rfl, by omega, Lib.hid (fun j hj => absurd hj (by omega)), Lib.hid (Below.refl _ _)⟩
  case round =>
    obtain ⟨i, rfl, hi, HN, HB⟩ := hrel
    by_cases hlt : i < l.length
    · obtain ⟨ad, hA, x1, x2, x3⟩ := at_T102 (Kd.C_below HC.out HB.out) (i : Int) (by omega) (by omega)
      subst hA
      have HQ := Lib.hid (show p (l.getD i z102) = p (rd_T102 l i) from by rw [rd_T102, Int.toNat_natCast])
      generalize hR : rd_T102 l i = R at *
      obtain ⟨e, s⟩ := R
      obtain ⟨a, b⟩ := s
      simp only [Int.toNat_natCast] at x1 x2 x3
      have hlti : (i : Int) < (l.length : Int) := by omega
      have hcl := f_ab2_cl e a b t g wr (cell_kb HB.out H1.out)
      rw [show decide (t ≤ e) = p ⟨e, ⟨a, b⟩⟩ from by rw [HP.out]] at hcl
      have HCL := Lib.hid hcl
      clear hcl hR
      cases hq : p ⟨e, ⟨a, b⟩⟩
      · rw [hq] at HCL HQ
        clear hq
        go_wp2_with fail
        refine HCL.out.mono ?_
        rintro e2 w2 ⟨rfl, hb2⟩
        have HB2 := Lib.hid (HB.out.trans (hb2.mono HB.out.size))
        clear hb2
        go_wp2
        go_roundw
        case rel => exact ⟨i + 1, by go_num, by omega, Lib.hid (fun j hj => (Nat.lt_succ_iff_lt_or_eq.1 hj).elim (HN.out j) (fun h => by rw [h]; exact HQ.out)), HB2⟩
        case measure => simp [intOf]; omega
      · rw [hq] at HCL HQ
        clear hq
        go_wp2_with fail
        refine HCL.out.mono ?_
        rintro e2 w2 ⟨rfl, hb2⟩
        have HB2 := Lib.hid (HB.out.trans (hb2.mono HB.out.size))
        clear hb2
        go_wp2
        go_ret
        exact ⟨by rw [HF.out, findIdx_at hlt HN.out HQ.out, if_pos hlt]; rfl, HB2.out⟩
    · obtain rfl : i = l.length := by omega
      go_wp2
      go_ret
      exact ⟨by rw [HF.out, findIdx_no HN.out, if_neg (Nat.lt_irrefl _)]; rfl, HB.out⟩
theorem f_ab2_first (A : Option Addr) (c : Nat) (l : List S102) (t : Int) (g : Nat) (w : World) (hr : Kd.C k102 w A l.length l) (hn2 : l.length ≤ 40) (h1 : w.cell? ⟨g, 1, none⟩ = some (.int .i64 t)) :
    Calls Try.prog 78 #[.slice A l.length c, .func (.func 80) #[] #[.pointer (some ⟨g, 0, none⟩)]] w fun e w' => e = .returned (.int .i64 (l.findIdx (fun r : S102 => decide (t ≤ r.f0)) : Int)) ∧ Below w.heap.size w w' := by
  have HX := Lib.hid (f_ab2_ix A c l t g w hr hn2 h1)
  have hle : l.findIdx (fun r : S102 => decide (t ≤ r.f0)) ≤ l.length := List.findIdx_le_length
  generalize l.findIdx (fun r : S102 => decide (t ≤ r.f0)) = f at *
  clear hr h1
  rcases Classical.em (f < l.length) with hf | hf
  · rw [if_pos hf] at HX
    have hd : decide ((f : Int) ≥ 0) = true := decide_eq_true (by omega)
    go_enter Try.func78, Try.ntmps78
    go_wp2_with fail
    refine HX.out.mono ?_
    rintro e2 w2 ⟨rfl, hb2⟩
    have HB2 := Lib.hid hb2
    clear hb2
    go_wp2
    go_ret
    exact ⟨rfl, HB2.out⟩
  · rw [if_neg hf] at HX
    obtain rfl : f = l.length := by omega
    go_enter Try.func78, Try.ntmps78
    go_wp2_with fail
    refine HX.out.mono ?_
    rintro e2 w2 ⟨rfl, hb2⟩
    have HB2 := Lib.hid hb2
    clear hb2
    go_wp2
    go_ret
    exact ⟨rfl, HB2.out⟩

theorem f_th1_cl (e a b t : Int) (g : Nat) (w : World) (h1 : w.cell? ⟨g, 0, none⟩ = some (.int .i64 t)) :
    Calls Try.prog 82 #[.agg #[.int .i64 e, .int .i64 a, .int .i64 b], .pointer (some ⟨g, 0, none⟩)] w fun x w' => x = .returned (.bool (decide (t ≤ b))) ∧ Below w.heap.size w w' := by
  have hlt := World.block_lt_of_cell? w _ h1
  have hx := ((Below.refl w.heap.size w).alloc (Nat.le_refl _) (.cells #[.int .i64 e, .int .i64 a, .int .i64 b] 66 (0, 0)))
  have h2 := cell_kb hx h1
  simp at hlt
  clear hx
  go_enter Try.func82, Try.ntmps82
  go_wp2
  go_ret
  exact ⟨rfl, by repeat (first | exact Below.refl _ _ | refine Below.alloc ?_ (by simp) _)⟩

set_option maxHeartbeats 1000000 in
theorem f_th1_ix (A : Option Addr) (c : Nat) (l : List S66) (t : Int) (g : Nat) (w : World) (hr : Kd.C k66 w A l.length l) (hn2 : l.length ≤ 40) (h1 : w.cell? ⟨g, 0, none⟩ = some (.int .i64 t)) :
    Calls Try.prog 90 #[.slice A l.length c, .func (.func 82) #[] #[.pointer (some ⟨g, 0, none⟩)]] w fun e w' => e = .returned (.int .i64 (if l.findIdx (fun r : S66 => decide (t ≤ r.f1.f1)) < l.length then (l.findIdx (fun r : S66 => decide (t ≤ r.f1.f1)) : Int) else -1)) ∧ Below w.heap.size w w' := by
  obtain ⟨p, hp⟩ : ∃ p, p = (fun r : S66 => decide (t ≤ r.f1.f1)) := ⟨_, rfl⟩
  rw [← hp]
  obtain ⟨F, hF⟩ : ∃ F : Int, F = if l.findIdx p < l.length then (l.findIdx p : Int) else -1 := ⟨_, rfl⟩
  rw [← hF]
  have HF := Lib.hid hF
  clear hF
  have HP := Lib.hid hp
  have HC := Lib.hid hr
  have H1 := Lib.hid h1
  clear hr hp h1
  go_enter Try.func90, Try.ntmps90
  go_wp2_with fail
  go_loopw [8] (fun v8 wr => ∃ i : Nat, v8 = .int .i64 i ∧ i ≤ l.length ∧ Hid (∀ j, j < i → p (l.getD j z66) = false) ∧ Hid (Below w.heap.size w wr)) (fun v8 _ => l.length - (intOf v8).toNat)
  case atStart => exact ⟨0, rfl, by omega, Lib.hid (fun j hj => absurd hj (by omega)), Lib.hid (Below.refl _ _)⟩
  case round =>
    obtain ⟨i, rfl, hi, HN, HB⟩ := hrel
    by_cases hlt : i < l.length
    · obtain ⟨ad, hA, x1, x2, x3⟩ := at_T66 (Kd.C_below HC.out HB.out) (i : Int) (by omega) (by omega)
      subst hA
      have HQ := Lib.hid (show p (l.getD i z66) = p (rd_T66 l i) from by rw [rd_T66, Int.toNat_natCast])
      generalize hR : rd_T66 l i = R at *
      obtain ⟨e, s⟩ := R
      obtain ⟨a, b⟩ := s
      simp only [Int.toNat_natCast] at x1 x2 x3
      have hlti : (i : Int) < (l.length : Int) := by omega
      have hcl := f_th1_cl e a b t g wr (cell_kb HB.out H1.out)
      rw [show decide (t ≤ b) = p ⟨e, ⟨a, b⟩⟩ from by rw [HP.out]] at hcl
      have HCL := Lib.hid hcl
      clear hcl hR
      cases hq : p ⟨e, ⟨a, b⟩⟩
      · rw [hq] at HCL HQ
        clear hq
        go_wp2_with fail
        refine HCL.out.mono ?_
        rintro e2 w2 ⟨rfl, hb2⟩
        have HB2 := Lib.hid (HB.out.trans (hb2.mono HB.out.size))
        clear hb2
        go_wp2
        go_roundw
        case rel => exact ⟨i + 1, by go_num, by omega, Lib.hid (fun j hj => (Nat.lt_succ_iff_lt_or_eq.1 hj).elim (HN.out j) (fun h => by rw [h]; exact HQ.out)), HB2⟩
        case measure => simp [intOf]; omega
      · rw [hq] at HCL HQ
        clear hq
        go_wp2_with fail
        refine HCL.out.mono ?_
        rintro e2 w2 ⟨rfl, hb2⟩
        have HB2 := Lib.hid (HB.out.trans (hb2.mono HB.out.size))
        clear hb2
        go_wp2
        go_ret
        exact ⟨by rw [HF.out, findIdx_at hlt HN.out HQ.out, if_pos hlt]; rfl, HB2.out⟩
    · obtain rfl : i = l.length := by omega
      go_wp2
      go_ret
      exact ⟨by rw [HF.out, findIdx_no HN.out, if_neg (Nat.lt_irrefl _)]; rfl, HB.out⟩
theorem f_th1_first (A : Option Addr) (c : Nat) (l : List S66) (t : Int) (g : Nat) (w : World) (hr : Kd.C k66 w A l.length l) (hn2 : l.length ≤ 40) (h1 : w.cell? ⟨g, 0, none⟩ = some (.int .i64 t)) :
    Calls Try.prog 81 #[.slice A l.length c, .func (.func 82) #[] #[.pointer (some ⟨g, 0, none⟩)]] w fun e w' => e = .returned (.int .i64 (l.findIdx (fun r : S66 => decide (t ≤ r.f1.f1)) : Int)) ∧ Below w.heap.size w w' := by
  have HX := Lib.hid (f_th1_ix A c l t g w hr hn2 h1)
  have hle : l.findIdx (fun r : S66 => decide (t ≤ r.f1.f1)) ≤ l.length := List.findIdx_le_length
  generalize l.findIdx (fun r : S66 => decide (t ≤ r.f1.f1)) = f at *
  clear hr h1
  rcases Classical.em (f < l.length) with hf | hf
  · rw [if_pos hf] at HX
    have hd : decide ((f : Int) ≥ 0) = true := decide_eq_true (by omega)
    go_enter Try.func81, Try.ntmps81
    go_wp2_with fail
    refine HX.out.mono ?_
    rintro e2 w2 ⟨rfl, hb2⟩
    have HB2 := Lib.hid hb2
    clear hb2
    go_wp2
    go_ret
    exact ⟨rfl, HB2.out⟩
  · rw [if_neg hf] at HX
    obtain rfl : f = l.length := by omega
    go_enter Try.func81, Try.ntmps81
    go_wp2_with fail
    refine HX.out.mono ?_
    rintro e2 w2 ⟨rfl, hb2⟩
    have HB2 := Lib.hid hb2
    clear hb2
    go_wp2
    go_ret
    exact ⟨rfl, HB2.out⟩

theorem f_th2_cl (e a b t : Int) (g : Nat) (w : World) (h1 : w.cell? ⟨g, 0, none⟩ = some (.int .i64 t)) :
    Calls Try.prog 83 #[.agg #[.int .i64 e, .int .i64 a, .int .i64 b], .pointer (some ⟨g, 0, none⟩)] w fun x w' => x = .returned (.bool (decide (t ≤ a))) ∧ Below w.heap.size w w' := by
  have hlt := World.block_lt_of_cell? w _ h1
  have hx := ((Below.refl w.heap.size w).alloc (Nat.le_refl _) (.cells #[.int .i64 e, .int .i64 a, .int .i64 b] 66 (0, 0)))
  have h2 := cell_kb hx h1
  simp at hlt
  clear hx
  go_enter Try.func83, Try.ntmps83
  go_wp2
  go_ret
  exact ⟨rfl, by repeat (first | exact Below.refl _ _ | refine Below.alloc ?_ (by simp) _)⟩

set_option maxHeartbeats 1000000 in
theorem f_th2_ix (A : Option Addr) (c : Nat) (l : List S66) (t : Int) (g : Nat) (w : World) (hr : Kd.C k66 w A l.length l) (hn2 : l.length ≤ 40) (h1 : w.cell? ⟨g, 0, none⟩ = some (.int .i64 t)) :
    Calls Try.prog 90 #[.slice A l.length c, .func (.func 83) #[] #[.pointer (some ⟨g, 0, none⟩)]] w fun e w' => e = .returned (.int .i64 (if l.findIdx (fun r : S66 => decide (t ≤ r.f1.f0)) < l.length then (l.findIdx (fun r : S66 => decide (t ≤ r.f1.f0)) : Int) else -1)) ∧ Below w.heap.size w w' := by
  obtain ⟨p, hp⟩ : ∃ p, p = (fun r : S66 => decide (t ≤ r.f1.f0)) := ⟨_, rfl⟩
  rw [← hp]
  obtain ⟨F, hF⟩ : ∃ F : Int, F = if l.findIdx p < l.length then (l.findIdx p : Int) else -1 := ⟨_, rfl⟩
  rw [← hF]
  have HF := Lib.hid hF
  clear hF
  have HP := Lib.hid hp
  have HC := Lib.hid hr
  have H1 := Lib.hid h1
  clear hr hp h1
  go_enter Try.func90, Try.ntmps90
  go_wp2_with fail
  go_loopw [8] (fun v8 wr => ∃ i : Nat, v8 = .int .i64 i ∧ i ≤ l.length ∧ Hid (∀ j, j < i → p (l.getD j z66) = false) ∧ Hid (Below w.heap.size w wr)) (fun v8 _ => l.length - (intOf v8).toNat)
  case atStart => exact ⟨0, rfl, by omega, Lib.hid (fun j hj => absurd hj (by omega)), Lib.hid (Below.refl _ _)⟩
  case round =>
    obtain ⟨i, rfl, hi, HN, HB⟩ := hrel
    by_cases hlt : i < l.length
    · obtain ⟨ad, hA, x1, x2, x3⟩ := at_T66 (Kd.C_below HC.out HB.out) (i : Int) (by omega) (by omega)
      subst hA
      have HQ := Lib.hid (show p (l.getD i z66) = p (rd_T66 l i) from by rw [rd_T66, Int.toNat_natCast])
      generalize hR : rd_T66 l i = R at *
      obtain ⟨e, s⟩ := R
      obtain ⟨a, b⟩ := s
      simp only [Int.toNat_natCast] at x1 x2 x3
      have hlti : (i : Int) < (l.length : Int) := by omega
      have hcl := f_th2_cl e a b t g wr (cell_kb HB.out H1.out)
      rw [show decide (t ≤ a) = p ⟨e, ⟨a, b⟩⟩ from by rw [HP.out]] at hcl
      have HCL := Lib.hid hcl
      clear hcl hR
      cases hq : p ⟨e, ⟨a, b⟩⟩
      · rw [hq] at HCL HQ
        clear hq
        go_wp2_with fail
        refine HCL.out.mono ?_
        rintro e2 w2 ⟨rfl, hb2⟩
        have HB2 := Lib.hid (HB.out.trans (hb2.mono HB.out.size))
        clear hb2
        go_wp2
        go_roundw
        case rel => exact ⟨i + 1, by go_num, by omega, Lib.hid (fun j hj => (Nat.lt_succ_iff_lt_or_eq.1 hj).elim (HN.out j) (fun h => by rw [h]; exact HQ.out)), HB2⟩
        case measure => simp [intOf]; omega
      · rw [hq] at HCL HQ
        clear hq
        go_wp2_with fail
        refine HCL.out.mono ?_
        rintro e2 w2 ⟨rfl, hb2⟩
        have HB2 := Lib.hid (HB.out.trans (hb2.mono HB.out.size))
        clear hb2
        go_wp2
        go_ret
        exact ⟨by rw [HF.out, findIdx_at hlt HN.out HQ.out, if_pos hlt]; rfl, HB2.out⟩
    · obtain rfl : i = l.length := by omega
      go_wp2
      go_ret
      exact ⟨by rw [HF.out, findIdx_no HN.out, if_neg (Nat.lt_irrefl _)]; rfl, HB.out⟩
theorem f_th2_first (A : Option Addr) (c : Nat) (l : List S66) (t : Int) (g : Nat) (w : World) (hr : Kd.C k66 w A l.length l) (hn2 : l.length ≤ 40) (h1 : w.cell? ⟨g, 0, none⟩ = some (.int .i64 t)) :
    Calls Try.prog 81 #[.slice A l.length c, .func (.func 83) #[] #[.pointer (some ⟨g, 0, none⟩)]] w fun e w' => e = .returned (.int .i64 (l.findIdx (fun r : S66 => decide (t ≤ r.f1.f0)) : Int)) ∧ Below w.heap.size w w' := by
  have HX := Lib.hid (f_th2_ix A c l t g w hr hn2 h1)
  have hle : l.findIdx (fun r : S66 => decide (t ≤ r.f1.f0)) ≤ l.length := List.findIdx_le_length
  generalize l.findIdx (fun r : S66 => decide (t ≤ r.f1.f0)) = f at *
  clear hr h1
  rcases Classical.em (f < l.length) with hf | hf
  · rw [if_pos hf] at HX
    have hd : decide ((f : Int) ≥ 0) = true := decide_eq_true (by omega)
    go_enter Try.func81, Try.ntmps81
    go_wp2_with fail
    refine HX.out.mono ?_
    rintro e2 w2 ⟨rfl, hb2⟩
    have HB2 := Lib.hid hb2
    clear hb2
    go_wp2
    go_ret
    exact ⟨rfl, HB2.out⟩
  · rw [if_neg hf] at HX
    obtain rfl : f = l.length := by omega
    go_enter Try.func81, Try.ntmps81
    go_wp2_with fail
    refine HX.out.mono ?_
    rintro e2 w2 ⟨rfl, hb2⟩
    have HB2 := Lib.hid hb2
    clear hb2
    go_wp2
    go_ret
    exact ⟨rfl, HB2.out⟩
end Go.Proofs.Yteigcddmbpfahaa.Cn
end
section
namespace Go.Proofs.Yteigcddmbpfahaa.Cn
set_option linter.unusedVariables false
open Go.RowKit Go.Proofs.YteigcddmbpfahaaW.PrintWords Go.Proofs.YteigcddmbpfahaaW.PrintLast Go.Proofs.YteigcddmbpfahaaW.PrintMore
def aboveL (l : List S102) (tl th : Int) : Int := if th = -1 then 0 else if l.findIdx (fun r : S102 => decide (th ≤ r.f0)) < l.length then (rd_T102 l (l.findIdx (fun r : S102 => decide (th ≤ r.f0)) : Nat)).f1.f0 else 0
def aboveH (l : List S102) (tl : Int) : Int := (rd_T102 l ((l.findIdx (fun r : S102 => decide (tl < r.f0)) - 1 : Nat) : Int)).f1.f1
structure Ab (w : World) (n : Nat) (a0 a1 r0 r1 o0 o1 : Int) : Prop where
  box : Blk w n #[.int .i64 a0, .int .i64 a1] 24
  res : Blk w (n + 1) #[.int .i64 r0, .int .i64 r1] 24
  out : Blk w (n + 1 + 1) #[.int .i64 o0, .int .i64 o1] 24
theorem Ab.below {w w' : World} {n : Nat} {a0 a1 r0 r1 o0 o1 : Int} (h : Ab w n a0 a1 r0 r1 o0 o1) (hb : Below w.heap.size w w') : Ab w' n a0 a1 r0 r1 o0 o1 :=
  ⟨h.box.below hb h.box.lt, h.res.below hb h.res.lt, h.out.below hb h.out.lt⟩
theorem Ab.set0 {w : World} {n : Nat} {a0 a1 r0 r1 o0 o1 : Int} (h : Ab w n a0 a1 r0 r1 o0 o1) (x : Int) : Ab (w.setCell ⟨n + 1 + 1, 0, none⟩ (.int .i64 x)) n a0 a1 r0 r1 x o1 :=
  ⟨h.box.other (by simp; omega) _, h.res.other (by simp) _, h.out.setCell 0 _⟩
theorem Ab.set1 {w : World} {n : Nat} {a0 a1 r0 r1 o0 o1 : Int} (h : Ab w n a0 a1 r0 r1 o0 o1) (x : Int) : Ab (w.setCell ⟨n + 1 + 1, 1, none⟩ (.int .i64 x)) n a0 a1 r0 r1 o0 x :=
  ⟨h.box.other (by simp; omega) _, h.res.other (by simp) _, h.out.setCell 1 _⟩
theorem Ab.cells {w : World} {n : Nat} {a0 a1 r0 r1 o0 o1 : Int} (h : Ab w n a0 a1 r0 r1 o0 o1) :
    w.cell? ⟨n, 0, none⟩ = some (.int .i64 a0) ∧ w.cell? ⟨n, 1, none⟩ = some (.int .i64 a1) ∧ w.cell? ⟨n + 1, 0, none⟩ = some (.int .i64 r0) ∧ w.cell? ⟨n + 1, 1, none⟩ = some (.int .i64 r1) ∧ w.cell? ⟨n + 1 + 1, 0, none⟩ = some (.int .i64 o0) ∧ w.cell? ⟨n + 1 + 1, 1, none⟩ = some (.int .i64 o1) ∧
    w.frozen? ⟨n + 1, 0, none⟩ = false ∧ w.frozen? ⟨n + 1, 1, none⟩ = false ∧ w.frozen? ⟨n + 1 + 1, 0, none⟩ = false ∧ w.frozen? ⟨n + 1 + 1, 1, none⟩ = false :=
  ⟨h.box.cell 0, h.box.cell 1, h.res.cell 0, h.res.cell 1, h.out.cell 0, h.out.cell 1, h.res.free 0, h.res.free 1, h.out.free 0, h.out.free 1⟩
theorem below_set {w0 w : World} (h : Below w0.heap.size w0 w) {n : Nat} (hn : w0.heap.size ≤ n) (o : Nat) (x : Value) : Below w0.heap.size w0 (w.setCell ⟨n, o, none⟩ x) :=
  Below.setCell h hn x

set_option maxRecDepth 100000 in
set_option maxHeartbeats 4000000 in
theorem f_above (A : Option Addr) (c : Nat) (l : List S102) (tl th : Int) (w : World) (hr : Kd.C k102 w A l.length l) (hn1 : 1 ≤ l.length) (hn2 : l.length ≤ 40) :
    Calls Try.prog 55 #[.slice A l.length c, .agg #[.int .i64 tl, .int .i64 th]] w fun e w' => e = .returned (.agg #[.int .i64 (aboveL l tl th), .int .i64 (aboveH l tl)]) ∧ Below w.heap.size w w' := by
  obtain ⟨L, hL⟩ : ∃ L, L = aboveL l tl th := ⟨_, rfl⟩
  obtain ⟨H, hH⟩ : ∃ H, H = aboveH l tl := ⟨_, rfl⟩
  rw [← hL, ← hH]
  have hf1 : l.findIdx (fun r : S102 => decide (tl < r.f0)) ≤ l.length := List.findIdx_le_length
  have hf2 : l.findIdx (fun r : S102 => decide (th ≤ r.f0)) ≤ l.length := List.findIdx_le_length
  unfold aboveL at hL
  unfold aboveH at hH
  have HC := Lib.hid hr
  have HF1 := Lib.hid (fun g w h hh => f_ab1_first A c l tl g w h hn2 hh)
  have HF2 := Lib.hid (fun g w h hh => f_ab2_first A c l th g w h hn2 hh)
  generalize l.findIdx (fun r : S102 => decide (tl < r.f0)) = f1 at *
  generalize l.findIdx (fun r : S102 => decide (th ≤ r.f0)) = f2 at *
  obtain ⟨ad, hA, -, -, x3⟩ := at_T102 hr 0 (by omega) (by omega)
  subst hA
  simp only [Int.toNat_zero, Nat.zero_mul, addr_add0] at x3
  have x4 : w.cell? ⟨ad.block, ad.off + 1 + 1, none⟩ = some (.int .i64 (rd_T102 l 0).f1.f1) := x3
  have x5 : ((w.alloc (.cells #[.int .i64 tl, .int .i64 th] 24 (0, 0))).alloc (.cells #[.int .i64 0, .int .i64 0] 24 (0, 0))).cell? ⟨ad.block, ad.off + 1 + 1, none⟩ = some (.int .i64 (rd_T102 l 0).f1.f1) :=
    cell_kb (((Below.refl w.heap.size w).alloc (Nat.le_refl _) _).alloc (by simp) _) x4
  clear x3
  generalize hR0 : (rd_T102 l 0).f1.f1 = R0 at *
  have HL := Lib.hid hL
  have HH := Lib.hid hH
  clear hr hL hH
  go_enter Try.func55, Try.ntmps55
  go_wp2_with fail
  obtain ⟨wa, hwa⟩ : ∃ wa, wa = ((w.alloc (.cells #[.int .i64 tl, .int .i64 th] 24 (0, 0))).alloc (.cells #[.int .i64 0, .int .i64 0] 24 (0, 0))).alloc (.cells #[.int .i64 0, .int .i64 R0] 24 (0, 0)) := ⟨_, rfl⟩
  have hab : Ab wa w.heap.size tl th 0 0 0 R0 := by
    rw [hwa]
    exact ⟨((Blk.new w _ _).alloc _).alloc _, by have := (Blk.new (w.alloc (.cells #[.int .i64 tl, .int .i64 th] 24 (0, 0))) #[.int .i64 0, .int .i64 0] 24).alloc (.cells #[.int .i64 0, .int .i64 R0] 24 (0, 0)); simpa using this, by have := Blk.new ((w.alloc (.cells #[.int .i64 tl, .int .i64 th] 24 (0, 0))).alloc (.cells #[.int .i64 0, .int .i64 0] 24 (0, 0))) #[.int .i64 0, .int .i64 R0] 24; simpa using this⟩
  have hwb : Below w.heap.size w wa := by rw [hwa]; exact (((Below.refl w.heap.size w).alloc (Nat.le_refl _) _).alloc (by simp) _).alloc (by simp; omega) _
  rw [← hwa]
  clear hwa x5
  refine (HF1.out _ _ (Kd.C_below HC.out hwb) hab.cells.1).mono ?_
  rintro e2 w2 ⟨rfl, hb2⟩
  have HA2 := Lib.hid (hab.below hb2)
  have HB2 := Lib.hid (hwb.trans (hb2.mono hwb.size))
  have x6 := cell_kb HB2.out x4
  clear hab hwb hb2 x4
  rcases Nat.eq_zero_or_pos f1 with h0 | h0
  · subst h0
    obtain ⟨c0, c1, c2, c3, c4, c5, d0, d1, d2, d3⟩ := HA2.out.cells
    rcases Classical.em (th = -1) with ht | ht
    · have ht1 : (th == -1) = true := by simp [ht]
      have LD : (0 : Int) = L ∧ R0 = H := by
        rw [HL.out, HH.out]
        rw [if_pos ht]; exact ⟨rfl, hR0.symm⟩
      have LDH := Lib.hid LD
      clear LD
      go_wp2
      have hbF := (HA2.out.res.setCell 0 (.int .i64 (0 : Int))).setCell 1 (.int .i64 R0)
      simp only [List.setIfInBounds_toArray, List.set_cons_zero, List.set_cons_succ] at hbF
      refine bodyPost_ret (results_cell_row rfl _ _ (w.heap.size + 1) 24 _ (0, 0) _ rfl hbF Try.underlying24 rfl (by kernel_rfl)) rfl ?_
      rw [← LDH.out.1, ← LDH.out.2]
      exact ⟨rfl, (HB2.out.setCell (p := ⟨w.heap.size + 1, 0, none⟩) (by simp) _).setCell (p := ⟨w.heap.size + 1, 1, none⟩) (by simp) _⟩
    · have ht1 : (th == -1) = false := by simp [ht]
      go_wp2_with fail
      refine (HF2.out _ _ (Kd.C_below HC.out HB2.out) HA2.out.cells.2.1).mono ?_
      rintro e4 w4 ⟨rfl, hb4⟩
      have HA4 := Lib.hid (HA2.out.below hb4)
      have HB4 := Lib.hid (HB2.out.trans (hb4.mono HB2.out.size))
      clear hb4 c0 c1 c2 c3 c4 c5 d0 d1 d2 d3
      obtain ⟨c0, c1, c2, c3, c4, c5, d0, d1, d2, d3⟩ := HA4.out.cells
      rcases Classical.em (f2 < l.length) with h2 | h2
      · have hd2 : decide ((f2 : Int) < (l.length : Int)) = true := decide_eq_true (by omega)
        have hj2 : (f2 : Int) < (l.length : Int) := by omega
        obtain ⟨adb, hAb, q1, q2, q3⟩ := at_T102 (Kd.C_below HC.out HB4.out) (((f2 : Nat)) : Int) (by omega) (by omega)
        cases hAb
        simp only [Int.toNat_natCast] at q1 q2 q3
        replace q3 : w4.cell? ⟨(ad.add (f2 * 3)).block, (ad.add (f2 * 3)).off + 1 + 1, none⟩ = some (.int .i64 (rd_T102 l ((f2 : Nat) : Int)).f1.f1) := q3
        generalize hR2 : rd_T102 l ((f2 : Nat) : Int) = R2 at *
        obtain ⟨e2, ⟨a2, b2⟩⟩ := R2
        simp only at q1 q2 q3
        obtain ⟨w5, hw5⟩ : ∃ w5, w4.setCell ⟨w.heap.size + 1 + 1, 0, none⟩ (.int .i64 a2) = w5 := ⟨_, rfl⟩
        have HA5 := Lib.hid (show Ab w5 w.heap.size tl th 0 0 a2 R0 by rw [← hw5]; exact HA4.out.set0 a2)
        have HB5 := Lib.hid (show Below w.heap.size w w5 by rw [← hw5]; exact HB4.out.setCell (p := ⟨w.heap.size + 1 + 1, 0, none⟩) (by simp; omega) _)
        obtain ⟨k0, k1, k2, k3, k4, k5, m0, m1, m2, m3⟩ := HA5.out.cells
        have LD : a2 = L ∧ R0 = H := by
          rw [HL.out, HH.out]
          rw [if_neg ht, if_pos h2]; exact ⟨rfl, hR0.symm⟩
        have LDH := Lib.hid LD
        clear LD
        go_wp2
        have hbF := (HA5.out.res.setCell 0 (.int .i64 a2)).setCell 1 (.int .i64 R0)
        simp only [List.setIfInBounds_toArray, List.set_cons_zero, List.set_cons_succ] at hbF
        refine bodyPost_ret (results_cell_row rfl _ _ (w.heap.size + 1) 24 _ (0, 0) _ rfl hbF Try.underlying24 rfl (by kernel_rfl)) rfl ?_
        rw [← LDH.out.1, ← LDH.out.2]
        exact ⟨rfl, (HB5.out.setCell (p := ⟨w.heap.size + 1, 0, none⟩) (by simp) _).setCell (p := ⟨w.heap.size + 1, 1, none⟩) (by simp) _⟩
      · have hd2 : decide ((f2 : Int) < (l.length : Int)) = false := decide_eq_false (by omega)
        have LD : (0 : Int) = L ∧ R0 = H := by
          rw [HL.out, HH.out]
          rw [if_neg ht, if_neg h2]; exact ⟨rfl, hR0.symm⟩
        have LDH := Lib.hid LD
        clear LD
        go_wp2
        have hbF := (HA4.out.res.setCell 0 (.int .i64 (0 : Int))).setCell 1 (.int .i64 R0)
        simp only [List.setIfInBounds_toArray, List.set_cons_zero, List.set_cons_succ] at hbF
        refine bodyPost_ret (results_cell_row rfl _ _ (w.heap.size + 1) 24 _ (0, 0) _ rfl hbF Try.underlying24 rfl (by kernel_rfl)) rfl ?_
        rw [← LDH.out.1, ← LDH.out.2]
        exact ⟨rfl, (HB4.out.setCell (p := ⟨w.heap.size + 1, 0, none⟩) (by simp) _).setCell (p := ⟨w.heap.size + 1, 1, none⟩) (by simp) _⟩
  · have hwr : IntKind.i64.wrap ((f1 : Int) - 1) = ((f1 - 1 : Nat) : Int) := by rw [IntKind.wrap_i64]; omega
    have hj : ((f1 - 1 : Nat) : Int) < (l.length : Int) := by omega
    obtain ⟨z0, z1, z2, z3, z4, z5, y0, y1, y2, y3⟩ := HA2.out.cells
    obtain ⟨adb, hAb, q1, q2, q3⟩ := at_T102 (Kd.C_below HC.out HB2.out) ((((f1 - 1) : Nat)) : Int) (by omega) (by omega)
    cases hAb
    simp only [Int.toNat_natCast] at q1 q2 q3
    replace q3 : w2.cell? ⟨(ad.add ((f1 - 1) * 3)).block, (ad.add ((f1 - 1) * 3)).off + 1 + 1, none⟩ = some (.int .i64 (rd_T102 l (((f1 - 1) : Nat) : Int)).f1.f1) := q3
    generalize hR1 : rd_T102 l (((f1 - 1) : Nat) : Int) = R1 at *
    obtain ⟨e1, ⟨a1, b1⟩⟩ := R1
    simp only at q1 q2 q3
    obtain ⟨w3, hw3⟩ : ∃ w3, w2.setCell ⟨w.heap.size + 1 + 1, 1, none⟩ (.int .i64 b1) = w3 := ⟨_, rfl⟩
    have HA3 := Lib.hid (show Ab w3 w.heap.size tl th 0 0 0 b1 by rw [← hw3]; exact HA2.out.set1 b1)
    have HB3 := Lib.hid (show Below w.heap.size w w3 by rw [← hw3]; exact HB2.out.setCell (p := ⟨w.heap.size + 1 + 1, 1, none⟩) (by simp; omega) _)
    obtain ⟨c0, c1, c2, c3, c4, c5, d0, d1, d2, d3⟩ := HA3.out.cells
    rcases Classical.em (th = -1) with ht | ht
    · have ht1 : (th == -1) = true := by simp [ht]
      have LD : (0 : Int) = L ∧ b1 = H := by
        rw [HL.out, HH.out]
        rw [if_pos ht]; exact ⟨rfl, rfl⟩
      have LDH := Lib.hid LD
      clear LD
      go_wp2
      have hbF := (HA3.out.res.setCell 0 (.int .i64 (0 : Int))).setCell 1 (.int .i64 b1)
      simp only [List.setIfInBounds_toArray, List.set_cons_zero, List.set_cons_succ] at hbF
      refine bodyPost_ret (results_cell_row rfl _ _ (w.heap.size + 1) 24 _ (0, 0) _ rfl hbF Try.underlying24 rfl (by kernel_rfl)) rfl ?_
      rw [← LDH.out.1, ← LDH.out.2]
      exact ⟨rfl, (HB3.out.setCell (p := ⟨w.heap.size + 1, 0, none⟩) (by simp) _).setCell (p := ⟨w.heap.size + 1, 1, none⟩) (by simp) _⟩
    · have ht1 : (th == -1) = false := by simp [ht]
      go_wp2_with fail
      refine (HF2.out _ _ (Kd.C_below HC.out HB3.out) HA3.out.cells.2.1).mono ?_
      rintro e4 w4 ⟨rfl, hb4⟩
      have HA4 := Lib.hid (HA3.out.below hb4)
      have HB4 := Lib.hid (HB3.out.trans (hb4.mono HB3.out.size))
      clear hb4 c0 c1 c2 c3 c4 c5 d0 d1 d2 d3
      obtain ⟨c0, c1, c2, c3, c4, c5, d0, d1, d2, d3⟩ := HA4.out.cells
      rcases Classical.em (f2 < l.length) with h2 | h2
      · have hd2 : decide ((f2 : Int) < (l.length : Int)) = true := decide_eq_true (by omega)
        have hj2 : (f2 : Int) < (l.length : Int) := by omega
        obtain ⟨adb, hAb, q1, q2, q3⟩ := at_T102 (Kd.C_below HC.out HB4.out) (((f2 : Nat)) : Int) (by omega) (by omega)
        cases hAb
        simp only [Int.toNat_natCast] at q1 q2 q3
        replace q3 : w4.cell? ⟨(ad.add (f2 * 3)).block, (ad.add (f2 * 3)).off + 1 + 1, none⟩ = some (.int .i64 (rd_T102 l ((f2 : Nat) : Int)).f1.f1) := q3
        generalize hR2 : rd_T102 l ((f2 : Nat) : Int) = R2 at *
        obtain ⟨e2, ⟨a2, b2⟩⟩ := R2
        simp only at q1 q2 q3
        obtain ⟨w5, hw5⟩ : ∃ w5, w4.setCell ⟨w.heap.size + 1 + 1, 0, none⟩ (.int .i64 a2) = w5 := ⟨_, rfl⟩
        have HA5 := Lib.hid (show Ab w5 w.heap.size tl th 0 0 a2 b1 by rw [← hw5]; exact HA4.out.set0 a2)
        have HB5 := Lib.hid (show Below w.heap.size w w5 by rw [← hw5]; exact HB4.out.setCell (p := ⟨w.heap.size + 1 + 1, 0, none⟩) (by simp; omega) _)
        obtain ⟨k0, k1, k2, k3, k4, k5, m0, m1, m2, m3⟩ := HA5.out.cells
        have LD : a2 = L ∧ b1 = H := by
          rw [HL.out, HH.out]
          rw [if_neg ht, if_pos h2]; exact ⟨rfl, rfl⟩
        have LDH := Lib.hid LD
        clear LD
        go_wp2
        have hbF := (HA5.out.res.setCell 0 (.int .i64 a2)).setCell 1 (.int .i64 b1)
        simp only [List.setIfInBounds_toArray, List.set_cons_zero, List.set_cons_succ] at hbF
        refine bodyPost_ret (results_cell_row rfl _ _ (w.heap.size + 1) 24 _ (0, 0) _ rfl hbF Try.underlying24 rfl (by kernel_rfl)) rfl ?_
        rw [← LDH.out.1, ← LDH.out.2]
        exact ⟨rfl, (HB5.out.setCell (p := ⟨w.heap.size + 1, 0, none⟩) (by simp) _).setCell (p := ⟨w.heap.size + 1, 1, none⟩) (by simp) _⟩
      · have hd2 : decide ((f2 : Int) < (l.length : Int)) = false := decide_eq_false (by omega)
        have LD : (0 : Int) = L ∧ b1 = H := by
          rw [HL.out, HH.out]
          rw [if_neg ht, if_neg h2]; exact ⟨rfl, rfl⟩
        have LDH := Lib.hid LD
        clear LD
        go_wp2
        have hbF := (HA4.out.res.setCell 0 (.int .i64 (0 : Int))).setCell 1 (.int .i64 b1)
        simp only [List.setIfInBounds_toArray, List.set_cons_zero, List.set_cons_succ] at hbF
        refine bodyPost_ret (results_cell_row rfl _ _ (w.heap.size + 1) 24 _ (0, 0) _ rfl hbF Try.underlying24 rfl (by kernel_rfl)) rfl ?_
        rw [← LDH.out.1, ← LDH.out.2]
        exact ⟨rfl, (HB4.out.setCell (p := ⟨w.heap.size + 1, 0, none⟩) (by simp) _).setCell (p := ⟨w.heap.size + 1, 1, none⟩) (by simp) _⟩
end Go.Proofs.Yteigcddmbpfahaa.Cn
end
section
namespace Go.Proofs.Yteigcddmbpfahaa.Cn
set_option linter.unusedVariables false
open Go.RowKit Go.Proofs.YteigcddmbpfahaaW.PrintWords Go.Proofs.YteigcddmbpfahaaW.PrintLast Go.Proofs.YteigcddmbpfahaaW.PrintMore
def thrL (l : List S66) (t : Int) : Int := if t = 0 then 1 else if 0 < l.findIdx (fun r : S66 => decide (t ≤ r.f1.f1)) then (rd_T66 l ((l.findIdx (fun r : S66 => decide (t ≤ r.f1.f1)) - 1 : Nat) : Int)).f0 + 1 else 1
def thrH (l : List S66) (t : Int) : Int := if t = 0 then 1 else if l.findIdx (fun r : S66 => decide (t ≤ r.f1.f0)) < l.length then (rd_T66 l (l.findIdx (fun r : S66 => decide (t ≤ r.f1.f0)) : Nat)).f0 else -1
structure Th (w : World) (n : Nat) (a0 r0 r1 o0 o1 : Int) : Prop where
  box : Blk w n #[.int .i64 a0] 3
  res : Blk w (n + 1) #[.int .i64 r0, .int .i64 r1] 24
  out : Blk w (n + 1 + 1) #[.int .i64 o0, .int .i64 o1] 24
theorem Th.below {w w' : World} {n : Nat} {a0 r0 r1 o0 o1 : Int} (h : Th w n a0 r0 r1 o0 o1) (hb : Below w.heap.size w w') : Th w' n a0 r0 r1 o0 o1 :=
  ⟨h.box.below hb h.box.lt, h.res.below hb h.res.lt, h.out.below hb h.out.lt⟩
theorem Th.set0 {w : World} {n : Nat} {a0 r0 r1 o0 o1 : Int} (h : Th w n a0 r0 r1 o0 o1) (x : Int) : Th (w.setCell ⟨n + 1 + 1, 0, none⟩ (.int .i64 x)) n a0 r0 r1 x o1 :=
  ⟨h.box.other (by simp; omega) _, h.res.other (by simp) _, h.out.setCell 0 _⟩
theorem Th.set1 {w : World} {n : Nat} {a0 r0 r1 o0 o1 : Int} (h : Th w n a0 r0 r1 o0 o1) (x : Int) : Th (w.setCell ⟨n + 1 + 1, 1, none⟩ (.int .i64 x)) n a0 r0 r1 o0 x :=
  ⟨h.box.other (by simp; omega) _, h.res.other (by simp) _, h.out.setCell 1 _⟩
theorem Th.cells {w : World} {n : Nat} {a0 r0 r1 o0 o1 : Int} (h : Th w n a0 r0 r1 o0 o1) :
    w.cell? ⟨n, 0, none⟩ = some (.int .i64 a0) ∧ w.cell? ⟨n + 1, 0, none⟩ = some (.int .i64 r0) ∧ w.cell? ⟨n + 1, 1, none⟩ = some (.int .i64 r1) ∧ w.cell? ⟨n + 1 + 1, 0, none⟩ = some (.int .i64 o0) ∧ w.cell? ⟨n + 1 + 1, 1, none⟩ = some (.int .i64 o1) ∧
    w.frozen? ⟨n + 1, 0, none⟩ = false ∧ w.frozen? ⟨n + 1, 1, none⟩ = false ∧ w.frozen? ⟨n + 1 + 1, 0, none⟩ = false ∧ w.frozen? ⟨n + 1 + 1, 1, none⟩ = false :=
  ⟨h.box.cell 0, h.res.cell 0, h.res.cell 1, h.out.cell 0, h.out.cell 1, h.res.free 0, h.res.free 1, h.out.free 0, h.out.free 1⟩

set_option maxRecDepth 100000 in
set_option maxHeartbeats 4000000 in
theorem f_threshold (A : Option Addr) (c : Nat) (l : List S66) (t : Int) (w : World) (hr : Kd.C k66 w A l.length l) (hg : RngG l) :
    Calls Try.prog 56 #[.slice A l.length c, .int .i64 t] w fun e w' => e = .returned (.agg #[.int .i64 (thrL l t), .int .i64 (thrH l t)]) ∧ Below w.heap.size w w' := by
  have hn2 := hg.2.1
  have hn1 := hg.1
  obtain ⟨L, hL⟩ : ∃ L, L = thrL l t := ⟨_, rfl⟩
  obtain ⟨H, hH⟩ : ∃ H, H = thrH l t := ⟨_, rfl⟩
  rw [← hL, ← hH]
  have hf1 : l.findIdx (fun r : S66 => decide (t ≤ r.f1.f1)) ≤ l.length := List.findIdx_le_length
  have hf2 : l.findIdx (fun r : S66 => decide (t ≤ r.f1.f0)) ≤ l.length := List.findIdx_le_length
  unfold thrL at hL
  unfold thrH at hH
  have HC := Lib.hid hr
  have HF1 := Lib.hid (fun g w h hh => f_th1_first A c l t g w h hn2 hh)
  have HF2 := Lib.hid (fun g w h hh => f_th2_first A c l t g w h hn2 hh)
  generalize l.findIdx (fun r : S66 => decide (t ≤ r.f1.f1)) = f1 at *
  generalize l.findIdx (fun r : S66 => decide (t ≤ r.f1.f0)) = f2 at *
  have HG := Lib.hid hg.2.2
  have HL := Lib.hid hL
  have HH := Lib.hid hH
  obtain ⟨ad, hA, -, -, -⟩ := at_T66 hr 0 (by omega) (by omega)
  subst hA
  clear hr hL hH hg
  obtain ⟨wa, hwa⟩ : ∃ wa, ((w.alloc (.cells #[.int .i64 t] 3 (0, 0))).alloc (.cells #[.int .i64 0, .int .i64 0] 24 (0, 0))).alloc (.cells #[.int .i64 1, .int .i64 1] 24 (0, 0)) = wa := ⟨_, rfl⟩
  have hab : Th wa w.heap.size t 0 0 1 1 := by
    rw [← hwa]
    exact ⟨((Blk.new w _ _).alloc _).alloc _, by have := (Blk.new (w.alloc (.cells #[.int .i64 t] 3 (0, 0))) #[.int .i64 0, .int .i64 0] 24).alloc (.cells #[.int .i64 1, .int .i64 1] 24 (0, 0)); simpa using this, by have := Blk.new ((w.alloc (.cells #[.int .i64 t] 3 (0, 0))).alloc (.cells #[.int .i64 0, .int .i64 0] 24 (0, 0))) #[.int .i64 1, .int .i64 1] 24; simpa using this⟩
  have hwb : Below w.heap.size w wa := by rw [← hwa]; exact (((Below.refl w.heap.size w).alloc (Nat.le_refl _) _).alloc (by simp) _).alloc (by simp; omega) _
  have HA := Lib.hid hab
  have HB := Lib.hid hwb
  clear hab hwb
  obtain ⟨c0, c1, c2, c3, c4, d0, d1, d2, d3⟩ := HA.out.cells
  rcases Classical.em (t = 0) with ht | ht
  · clear hwa HA HB c0 c1 c2 c3 c4 d0 d1 d2 d3
    subst ht
    go_enter Try.func56, Try.ntmps56
    go_wp2
    have hbF : Blk (((w.alloc (.cells #[.int .i64 0] 3 (0, 0))).alloc (.cells #[.int .i64 1, .int .i64 1] 24 (0, 0))).alloc (.cells #[.int .i64 1, .int .i64 1] 24 (0, 0))) (w.heap.size + 1) #[.int .i64 1, .int .i64 1] 24 := by
      have := (Blk.new (w.alloc (.cells #[.int .i64 0] 3 (0, 0))) #[.int .i64 1, .int .i64 1] 24).alloc (.cells #[.int .i64 1, .int .i64 1] 24 (0, 0))
      simpa using this
    refine bodyPost_ret (results_cell_row rfl _ _ (w.heap.size + 1) 24 _ (0, 0) _ rfl hbF Try.underlying24 rfl (by kernel_rfl)) rfl ?_
    rw [HL.out, HH.out]
    exact ⟨rfl, (((Below.refl w.heap.size w).alloc (Nat.le_refl _) _).alloc (by simp) _).alloc (by simp; omega) _⟩
  · have ht1 : (t == 0) = false := by simp [ht]
    go_enter Try.func56, Try.ntmps56
    go_wp2_with fail
    refine (HF1.out _ _ (Kd.C_below HC.out HB.out) HA.out.cells.1).mono ?_
    rintro e2 w2 ⟨rfl, hb2⟩
    have HA2 := Lib.hid (HA.out.below hb2)
    have HB2 := Lib.hid (HB.out.trans (hb2.mono HB.out.size))
    clear hb2 hwa c0 c1 c2 c3 c4 d0 d1 d2 d3
    obtain ⟨c0, c1, c2, c3, c4, d0, d1, d2, d3⟩ := HA2.out.cells
    rcases Classical.em (0 < f1) with h0 | h0
    · have hd1 : decide ((0 : Int) < (f1 : Int)) = true := decide_eq_true (by omega)
      have hwr : IntKind.i64.wrap ((f1 : Int) - 1) = ((f1 - 1 : Nat) : Int) := by rw [IntKind.wrap_i64]; omega
      have hj : ((f1 - 1 : Nat) : Int) < (l.length : Int) := by omega
      have hG1 := HG.out (f1 - 1) (by omega)
      obtain ⟨adb, hAb, q1, q2, q3⟩ := at_T66 (Kd.C_below HC.out HB2.out) (((f1 - 1) : Nat) : Int) (by omega) (by omega)
      cases hAb
      simp only [Int.toNat_natCast] at q1
      clear q2 q3
      generalize rd_T66 l (((f1 - 1) : Nat) : Int) = R1 at *
      obtain ⟨e1, s1⟩ := R1
      simp only at q1
      have u1 : 1 ≤ e1 ∧ e1 ≤ 1000000 := ⟨hG1.1, hG1.2.1⟩
      clear hG1
      have hwe : IntKind.i64.wrap (e1 + 1) = e1 + 1 := by rw [IntKind.wrap_i64]; omega
      obtain ⟨w3, hw3⟩ : ∃ w3, w2.setCell ⟨w.heap.size + 1 + 1, 0, none⟩ (.int .i64 (e1 + 1)) = w3 := ⟨_, rfl⟩
      have HA3 := Lib.hid (show Th w3 w.heap.size t 0 0 (e1 + 1) 1 by rw [← hw3]; exact HA2.out.set0 _)
      have HB3 := Lib.hid (show Below w.heap.size w w3 by rw [← hw3]; exact HB2.out.setCell (p := ⟨w.heap.size + 1 + 1, 0, none⟩) (by simp; omega) _)
      obtain ⟨b0, b1, b2, b3, b4, g0, g1, g2, g3⟩ := HA3.out.cells
      obtain ⟨w4, hw4⟩ : ∃ w4, w3.setCell ⟨w.heap.size + 1 + 1, 1, none⟩ (.int .i64 (-1)) = w4 := ⟨_, rfl⟩
      have HA4 := Lib.hid (show Th w4 w.heap.size t 0 0 (e1 + 1) (-1) by rw [← hw4]; exact HA3.out.set1 _)
      have HB4 := Lib.hid (show Below w.heap.size w w4 by rw [← hw4]; exact HB3.out.setCell (p := ⟨w.heap.size + 1 + 1, 1, none⟩) (by simp; omega) _)
      obtain ⟨z0, z1, z2, z3, z4, y0, y1, y2, y3⟩ := HA4.out.cells
      go_wp2_with fail
      refine (HF2.out _ _ (Kd.C_below HC.out HB4.out) HA4.out.cells.1).mono ?_
      rintro e5 w5 ⟨rfl, hb5⟩
      have HA5 := Lib.hid (HA4.out.below hb5)
      have HB5 := Lib.hid (HB4.out.trans (hb5.mono HB4.out.size))
      clear hb5 hw4 z0 z1 z2 z3 z4 y0 y1 y2 y3
      obtain ⟨v0, v1, v2, v3, v4, x0, x1, x2, x3⟩ := HA5.out.cells
      rcases Classical.em (f2 < l.length) with h2 | h2
      · have hd2 : decide ((f2 : Int) < (l.length : Int)) = true := decide_eq_true (by omega)
        have hj2 : (f2 : Int) < (l.length : Int) := by omega
        have hG2 := HG.out f2 (by omega)
        obtain ⟨adb, hAb, q1, q2, q3⟩ := at_T66 (Kd.C_below HC.out HB5.out) ((f2 : Nat) : Int) (by omega) (by omega)
        cases hAb
        simp only [Int.toNat_natCast] at q1
        clear q2 q3
        generalize rd_T66 l ((f2 : Nat) : Int) = R2 at *
        obtain ⟨e2, s2⟩ := R2
        simp only at q1
        have u2 : 1 ≤ e2 ∧ e2 ≤ 1000000 := ⟨hG2.1, hG2.2.1⟩
        clear hG2
        obtain ⟨w6, hw6⟩ : ∃ w6, w5.setCell ⟨w.heap.size + 1 + 1, 1, none⟩ (.int .i64 (e2)) = w6 := ⟨_, rfl⟩
        have HA6 := Lib.hid (show Th w6 w.heap.size t 0 0 (e1 + 1) e2 by rw [← hw6]; exact HA5.out.set1 _)
        have HB6 := Lib.hid (show Below w.heap.size w w6 by rw [← hw6]; exact HB5.out.setCell (p := ⟨w.heap.size + 1 + 1, 1, none⟩) (by simp; omega) _)
        obtain ⟨k0, k1, k2, k3, k4, m0, m1, m2, m3⟩ := HA6.out.cells
        have LD : e1 + 1 = L ∧ e2 = H := by
          rw [HL.out, HH.out]
          rw [if_neg ht, if_neg ht, if_pos h2]; exact ⟨by rw [if_pos h0], rfl⟩
        have LDH := Lib.hid LD
        clear LD
        go_wp2
        have hbF := (HA6.out.res.setCell 0 (.int .i64 (e1 + 1))).setCell 1 (.int .i64 (e2))
        simp only [List.setIfInBounds_toArray, List.set_cons_zero, List.set_cons_succ] at hbF
        refine bodyPost_ret (results_cell_row rfl _ _ (w.heap.size + 1) 24 _ (0, 0) _ rfl hbF Try.underlying24 rfl (by kernel_rfl)) rfl ?_
        rw [← LDH.out.1, ← LDH.out.2]
        exact ⟨rfl, (HB6.out.setCell (p := ⟨w.heap.size + 1, 0, none⟩) (by simp) _).setCell (p := ⟨w.heap.size + 1, 1, none⟩) (by simp) _⟩
      · have hd2 : decide ((f2 : Int) < (l.length : Int)) = false := decide_eq_false (by omega)
        have LD : e1 + 1 = L ∧ -1 = H := by
          rw [HL.out, HH.out]
          rw [if_neg ht, if_neg ht, if_neg h2]; exact ⟨by rw [if_pos h0], rfl⟩
        have LDH := Lib.hid LD
        clear LD
        go_wp2
        have hbF := (HA5.out.res.setCell 0 (.int .i64 (e1 + 1))).setCell 1 (.int .i64 (-1))
        simp only [List.setIfInBounds_toArray, List.set_cons_zero, List.set_cons_succ] at hbF
        refine bodyPost_ret (results_cell_row rfl _ _ (w.heap.size + 1) 24 _ (0, 0) _ rfl hbF Try.underlying24 rfl (by kernel_rfl)) rfl ?_
        rw [← LDH.out.1, ← LDH.out.2]
        exact ⟨rfl, (HB5.out.setCell (p := ⟨w.heap.size + 1, 0, none⟩) (by simp) _).setCell (p := ⟨w.heap.size + 1, 1, none⟩) (by simp) _⟩
    · have hd1 : decide ((0 : Int) < (f1 : Int)) = false := decide_eq_false (by omega)
      obtain ⟨w4, hw4⟩ : ∃ w4, w2.setCell ⟨w.heap.size + 1 + 1, 1, none⟩ (.int .i64 (-1)) = w4 := ⟨_, rfl⟩
      have HA4 := Lib.hid (show Th w4 w.heap.size t 0 0 ((1 : Int)) (-1) by rw [← hw4]; exact HA2.out.set1 _)
      have HB4 := Lib.hid (show Below w.heap.size w w4 by rw [← hw4]; exact HB2.out.setCell (p := ⟨w.heap.size + 1 + 1, 1, none⟩) (by simp; omega) _)
      obtain ⟨z0, z1, z2, z3, z4, y0, y1, y2, y3⟩ := HA4.out.cells
      go_wp2_with fail
      refine (HF2.out _ _ (Kd.C_below HC.out HB4.out) HA4.out.cells.1).mono ?_
      rintro e5 w5 ⟨rfl, hb5⟩
      have HA5 := Lib.hid (HA4.out.below hb5)
      have HB5 := Lib.hid (HB4.out.trans (hb5.mono HB4.out.size))
      clear hb5 hw4 z0 z1 z2 z3 z4 y0 y1 y2 y3
      obtain ⟨v0, v1, v2, v3, v4, x0, x1, x2, x3⟩ := HA5.out.cells
      rcases Classical.em (f2 < l.length) with h2 | h2
      · have hd2 : decide ((f2 : Int) < (l.length : Int)) = true := decide_eq_true (by omega)
        have hj2 : (f2 : Int) < (l.length : Int) := by omega
        have hG2 := HG.out f2 (by omega)
        obtain ⟨adb, hAb, q1, q2, q3⟩ := at_T66 (Kd.C_below HC.out HB5.out) ((f2 : Nat) : Int) (by omega) (by omega)
        cases hAb
        simp only [Int.toNat_natCast] at q1
        clear q2 q3
        generalize rd_T66 l ((f2 : Nat) : Int) = R2 at *
        obtain ⟨e2, s2⟩ := R2
        simp only at q1
        have u2 : 1 ≤ e2 ∧ e2 ≤ 1000000 := ⟨hG2.1, hG2.2.1⟩
        clear hG2
        obtain ⟨w6, hw6⟩ : ∃ w6, w5.setCell ⟨w.heap.size + 1 + 1, 1, none⟩ (.int .i64 (e2)) = w6 := ⟨_, rfl⟩
        have HA6 := Lib.hid (show Th w6 w.heap.size t 0 0 ((1 : Int)) e2 by rw [← hw6]; exact HA5.out.set1 _)
        have HB6 := Lib.hid (show Below w.heap.size w w6 by rw [← hw6]; exact HB5.out.setCell (p := ⟨w.heap.size + 1 + 1, 1, none⟩) (by simp; omega) _)
        obtain ⟨k0, k1, k2, k3, k4, m0, m1, m2, m3⟩ := HA6.out.cells
        have LD : (1 : Int) = L ∧ e2 = H := by
          rw [HL.out, HH.out]
          rw [if_neg ht, if_neg ht, if_pos h2]; exact ⟨by rw [if_neg h0], rfl⟩
        have LDH := Lib.hid LD
        clear LD
        go_wp2
        have hbF := (HA6.out.res.setCell 0 (.int .i64 ((1 : Int)))).setCell 1 (.int .i64 (e2))
        simp only [List.setIfInBounds_toArray, List.set_cons_zero, List.set_cons_succ] at hbF
        refine bodyPost_ret (results_cell_row rfl _ _ (w.heap.size + 1) 24 _ (0, 0) _ rfl hbF Try.underlying24 rfl (by kernel_rfl)) rfl ?_
        rw [← LDH.out.1, ← LDH.out.2]
        exact ⟨rfl, (HB6.out.setCell (p := ⟨w.heap.size + 1, 0, none⟩) (by simp) _).setCell (p := ⟨w.heap.size + 1, 1, none⟩) (by simp) _⟩
      · have hd2 : decide ((f2 : Int) < (l.length : Int)) = false := decide_eq_false (by omega)
        have LD : (1 : Int) = L ∧ -1 = H := by
          rw [HL.out, HH.out]
          rw [if_neg ht, if_neg ht, if_neg h2]; exact ⟨by rw [if_neg h0], rfl⟩
        have LDH := Lib.hid LD
        clear LD
        go_wp2
        have hbF := (HA5.out.res.setCell 0 (.int .i64 ((1 : Int)))).setCell 1 (.int .i64 (-1))
        simp only [List.setIfInBounds_toArray, List.set_cons_zero, List.set_cons_succ] at hbF
        refine bodyPost_ret (results_cell_row rfl _ _ (w.heap.size + 1) 24 _ (0, 0) _ rfl hbF Try.underlying24 rfl (by kernel_rfl)) rfl ?_
        rw [← LDH.out.1, ← LDH.out.2]
        exact ⟨rfl, (HB5.out.setCell (p := ⟨w.heap.size + 1, 0, none⟩) (by simp) _).setCell (p := ⟨w.heap.size + 1, 1, none⟩) (by simp) _⟩
end Go.Proofs.Yteigcddmbpfahaa.Cn
end
