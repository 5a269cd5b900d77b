import Derived.Test.YteigcddmbpfahaaPax6
import Derived.Test.YteigcddmbpfahaaR1
import Derived.Test.YteigcddmbpfahaaFm
namespace Go.Proofs.Yteigcddmbpfahaa.Pure
set_option linter.unusedVariables false
open Go.RowKit Go.Proofs.Yteigcddmbpfahaa.Pa Go.Proofs.YteigcddmbpfahaaW.PrintWords Go.Proofs.YteigcddmbpfahaaW.PrintLast Go.Proofs.YteigcddmbpfahaaW.PrintMore
open Go.Proofs.Yteigcddmbpfahaa.Cn

theorem known20_true : overburdentop_known20.f 20 = some true := by decide +kernel
theorem known20_w (w : World) : Calls Try.prog 8 #[] w fun e w' => e = .returned (.bool true) ∧ Below w.heap.size w w' :=
  overburdentop_known20.calls 20 true rfl w known20_true

end Go.Proofs.Yteigcddmbpfahaa.Pure
