/- Printed by our own driver (wip/drive.py) over the kit's print. -/
import Derived.Test.YteigcddmbpfahaaPbx0
import Derived.Test.YteigcddmbpfahaaPbx1
import Derived.Test.YteigcddmbpfahaaPbx2
import Derived.Test.YteigcddmbpfahaaPbx3
namespace Go.Proofs.Yteigcddmbpfahaa.Pb
open Go.RowKit Go.Proofs.YteigcddmbpfahaaW.PrintWords Go.Proofs.YteigcddmbpfahaaW.PrintLast Go.Proofs.YteigcddmbpfahaaW.PrintMore
open Go.Proofs.Yteigcddmbpfahaa.Cn Go.Proofs.Yteigcddmbpfahaa.Pc
attribute [local go_sem] max2_int min2_int max_two min_two max_three min_three max_four min_four   -- for this text's walks alone
set_option linter.unusedVariables false
set_option linter.unusedSimpArgs false

end Go.Proofs.Yteigcddmbpfahaa.Pb
