import Derived.Test.YteigcddmbpfahaaFh
namespace Go.Proofs.Yteigcddmbpfahaa.Cn
set_option linter.unusedVariables false
open Go.RowKit Go.Proofs.YteigcddmbpfahaaW.PrintWords Go.Proofs.YteigcddmbpfahaaW.PrintLast Go.Proofs.YteigcddmbpfahaaW.PrintMore
instance (l : List S66) (most : Int) : Decidable (mono_rngG l most) := inferInstanceAs (Decidable (∀ i : Nat, i < l.length → _))
instance (l : List S102) (most : Int) : Decidable (mono_skyG l most) := inferInstanceAs (Decidable (∀ i : Nat, i < l.length → _))
instance (l : List S66) : Decidable (RngG l) := inferInstanceAs (Decidable (_ ∧ _ ∧ _))
instance (P : Int) (l : List S102) : Decidable (BinG P l) := inferInstanceAs (Decidable (_ ∧ _ ∧ _ ∧ _))

def overburdenref05_Ranges.f (l : List S66) : Option Bool := some (decide (RngG l))
end Go.Proofs.Yteigcddmbpfahaa.Cn
