import Derived.Test.YteigcddmbpfahaaFi
namespace Go.Proofs.Yteigcddmbpfahaa.Cn
set_option linter.unusedVariables false
open Go.RowKit Go.Proofs.YteigcddmbpfahaaW.PrintWords Go.Proofs.YteigcddmbpfahaaW.PrintLast Go.Proofs.YteigcddmbpfahaaW.PrintMore
def overburdenref05_bin.f (P : Int) (l : List S102) : Option Bool := some (decide (BinG P l))
end Go.Proofs.Yteigcddmbpfahaa.Cn
