/- Printed by our own driver (wip/drive.py) over the kit's print. -/
import Derived.Test.YtgofaifmbjallaaProg
import Derived.Below
import Derived.Deep.Draws
import Derived.Deep.AppendLies
import Derived.Maps.AppendAt
import Derived.OwnWalk
import Derived.Laws.BytesArg
import Derived.Laws.MakeOwn
import Derived.Laws.OwnMore
import Derived.Deep.OwnRows
import Derived.Tactics
import Derived.Lib.ConvBytes
import Derived.Laws.Slices
import Derived.WalkKit
import Derived.KernelRfl
import Derived.RowKit3
import Derived.Deep.LoopGhost
import Derived.Deep.QuietTactic
import Derived.BigQuiet
import Derived.WideLaws
import Derived.Deep.DeepCutAuto
import Derived.Deep.CutBlock
import Derived.Deep.RegionHeld3
import Derived.Laws.Rows
import Derived.Lib.AppendStr
import Derived.ArgAppend
import Derived.Laws.IdiomCopy
import Derived.OrdersHeld
import Derived.Laws.BitsLemmas
import Derived.RowKit
import Derived.Test.YtgofaifmbjallaaC4
import Derived.Test.YtgofaifmbjallaaWWords
import Derived.Test.YtgofaifmbjallaaWLast
import Derived.Test.YtgofaifmbjallaaWTab
import Derived.Test.YtgofaifmbjallaaWFour
import Derived.Test.YtgofaifmbjallaaWQPut
import Derived.Test.YtgofaifmbjallaaWApart
import Derived.Test.YtgofaifmbjallaaWArr
import Derived.Test.YtgofaifmbjallaaWZeros
import Derived.Test.YtgofaifmbjallaaWFoot
import Derived.Test.YtgofaifmbjallaaWKept
import Derived.Test.YtgofaifmbjallaaWShare
import Derived.Test.YtgofaifmbjallaaWN
import Derived.Test.YtgofaifmbjallaaWFootNe
import Derived.Test.YtgofaifmbjallaaWAt
import Derived.Test.YtgofaifmbjallaaWEqStruct
import Derived.Test.YtgofaifmbjallaaWRepsOne
import Derived.Test.YtgofaifmbjallaaWInv
import Derived.Test.YtgofaifmbjallaaWInvWords
import Derived.Test.YtgofaifmbjallaaWGuard
import Derived.Test.YtgofaifmbjallaaWNEv
import Derived.Test.YtgofaifmbjallaaWMore
namespace Go.Proofs.Ytgofaifmbjallaa.Pa
open Go.RowKit Go.Proofs.YtgofaifmbjallaaW.PrintWords Go.Proofs.YtgofaifmbjallaaW.PrintLast Go.Proofs.YtgofaifmbjallaaW.PrintMore
open Go.Proofs.Ytgofaifmbjallaa.Cn
attribute [local go_sem] max2_int min2_int max_two min_two max_three min_three max_four min_four   -- for this text's walks alone
set_option linter.unusedVariables false
set_option linter.unusedSimpArgs false



def errW : Option Int → Value
  | none => .nilIface
  | some c => .iface 0 (.int .i64 c)
theorem errW_none : errW none = .nilIface := rfl
theorem errW_some (c : Int) : errW (some c) = .iface 0 (.int .i64 c) := rfl

theorem info3 : (Try.prog.info? 3).map (fun i => (i.zero, i.size, i.bytes)) = some (some (.int .i64 0), 1, 8) := by kernel_rfl
theorem info4 : (Try.prog.info? 4).map (fun i => (i.zero, i.size, i.bytes)) = some (some (.bool false), 1, 1) := by kernel_rfl
theorem info65 : (Try.prog.info? 65).map (fun i => (i.zero, i.size, i.bytes)) = some (some (.agg #[(.int .i64 0), (.int .i64 0)]), 2, 16) := by kernel_rfl
-- the values' own types
end Go.Proofs.Ytgofaifmbjallaa.Pa
