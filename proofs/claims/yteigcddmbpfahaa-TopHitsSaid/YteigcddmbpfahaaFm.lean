import Derived.Test.YteigcddmbpfahaaFh
namespace Go.Proofs.Yteigcddmbpfahaa.Cn
set_option linter.unusedVariables false
end Go.Proofs.Yteigcddmbpfahaa.Cn
