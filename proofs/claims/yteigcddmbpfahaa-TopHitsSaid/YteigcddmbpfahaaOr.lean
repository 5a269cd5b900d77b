import Derived.Test.YteigcddmbpfahaaOq
import Derived.Test.YteigcddmbpfahaaPcx
namespace Go.Proofs.Yteigcddmbpfahaa.Cn
set_option linter.unusedVariables false
open Go.RowKit Go.Proofs.YteigcddmbpfahaaW.PrintWords Go.Proofs.YteigcddmbpfahaaW.PrintLast Go.ChangeShapes Go.WideShapes Go.Proofs.Yteigcddmbpfahaa.Pc
section
variable {H : Type} {enc : TypeId × Value → H} {w : World}
theorem op_site : Op enc Try.prog w k58 58 :=
  op_iso (op_struct Try.underlying58 (opF_cons (op_int Try.underlying3) rfl (by kernel_rfl) (by kernel_rfl) (opF_cons (op_int Try.underlying3) rfl (by kernel_rfl) (by kernel_rfl) (opF_cons (op_int Try.underlying3) rfl (by kernel_rfl) (by kernel_rfl) (opF_one (op_int Try.underlying3) rfl (by kernel_rfl))))) (by kernel_rfl)) (fun ⟨a, b, c, d⟩ => ⟨⟨a, b, c, d⟩, rfl⟩)
theorem op_camp : Op enc Try.prog w (Kd.pair (Kd.int .i64) (Kd.pair (Kd.int .i64) (Kd.pair (Kd.int .i64) (Kd.slice 58 k58)))) 43 :=
  op_struct Try.underlying43 (opF_cons (op_int Try.underlying3) rfl (by kernel_rfl) (by kernel_rfl) (opF_cons (op_int Try.underlying3) rfl (by kernel_rfl) (by kernel_rfl) (opF_cons (op_int Try.underlying3) rfl (by kernel_rfl) (by kernel_rfl) (opF_one (op_slice Try.underlying41 op_site (by kernel_rfl)) rfl (by kernel_rfl))))) (by kernel_rfl)
theorem camp_open {cs : Array Value} {t : DataW H × List MemPlace} {fuel : Nat} (h : DataW.trod enc Try.prog w 0 (fun _ => true) true fuel 43 cs.toList = some t) :
    ∃ (P lv bu : Int) (A : Option Addr) (c : Nat) (ss : List S58), cs = #[.int .i64 P, .int .i64 lv, .int .i64 bu, .slice A ss.length c] ∧ ss.length ≤ c ∧ Kd.C k58 w A ss.length ss := by
  obtain ⟨⟨P, lv, bu, ss⟩, c0, c1, e1, e2, c2, c3, e3, e4, c4, c5, e5, e6, A, c, e7, hc, hC⟩ := op_camp _ _ _ h
  simp only at e2 e4 e6 e7 hc hC
  subst e7
  rw [show c4 = [.int .i64 bu] from e6] at e5
  subst e5
  rw [show c2 = [.int .i64 lv] from e4] at e3
  subst e3
  rw [show c0 = [.int .i64 P] from e2] at e1
  refine ⟨P, lv, bu, A, c, ss, ?_, hc, hC⟩
  rw [← Array.toArray_toList (xs := cs), e1]
  rfl
theorem ints_open {A : Option Addr} {n c : Nat} {t : DataW H × List MemPlace} {fuel : Nat} (h : DataW.trod enc Try.prog w 0 (fun _ => true) true fuel 44 [.slice A n c] = some t) :
    ∃ l : List Int, n = l.length ∧ l.length ≤ c ∧ Kd.C (Kd.int .i64) w A l.length l := by
  obtain ⟨l, A', c', e, hc, hC⟩ := (op_slice (d := Kd.int .i64) Try.underlying44 (op_int Try.underlying3) (by kernel_rfl)) _ _ _ h
  simp only [List.cons.injEq, Value.slice.injEq, and_true] at e
  obtain ⟨rfl, rfl, rfl⟩ := e
  exact ⟨l, rfl, hc, hC⟩
end
end Go.Proofs.Yteigcddmbpfahaa.Cn
