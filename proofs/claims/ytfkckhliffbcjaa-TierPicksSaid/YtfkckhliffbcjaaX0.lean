-- Printed by this session's own turn (xprint) of the kit's print; Lean checks it.
import Derived.Test.YtfkckhliffbcjaaProg
import Derived.Below
import Derived.Deep.Draws
import Derived.Deep.AppendLies
import Derived.Maps.AppendAt
import Derived.OwnWalk
import Derived.Laws.BytesArg
import Derived.Laws.MakeOwn
import Derived.Laws.OwnMore
import Derived.Deep.OwnRows
import Derived.Tactics
import Derived.Lib.ConvBytes
import Derived.Laws.Slices
import Derived.WalkKit
import Derived.KernelRfl
import Derived.RowKit3
import Derived.Deep.LoopGhost
import Derived.Deep.QuietTactic
import Derived.BigQuiet
import Derived.WideLaws
import Derived.Deep.DeepCutAuto
import Derived.Deep.CutBlock
import Derived.Deep.RegionHeld3
import Derived.Laws.Rows
import Derived.Lib.AppendStr
import Derived.ArgAppend
import Derived.Laws.IdiomCopy
import Derived.OrdersHeld
import Derived.Laws.BitsLemmas
import Derived.RowKit
import Derived.Test.YtfkckhliffbcjaaWWords
import Derived.Test.YtfkckhliffbcjaaWLast
import Derived.Test.YtfkckhliffbcjaaWTab
import Derived.Test.YtfkckhliffbcjaaWFour
import Derived.Test.YtfkckhliffbcjaaWQPut
import Derived.Test.YtfkckhliffbcjaaWApart
import Derived.Test.YtfkckhliffbcjaaWArr
import Derived.Test.YtfkckhliffbcjaaWZeros
import Derived.Test.YtfkckhliffbcjaaWFoot
import Derived.Test.YtfkckhliffbcjaaWKept
import Derived.Test.YtfkckhliffbcjaaWShare
import Derived.Test.YtfkckhliffbcjaaWN
import Derived.Test.YtfkckhliffbcjaaWFootNe
import Derived.Test.YtfkckhliffbcjaaWAt
import Derived.Test.YtfkckhliffbcjaaWEqStruct
import Derived.Test.YtfkckhliffbcjaaWRepsOne
import Derived.Test.YtfkckhliffbcjaaWInv
import Derived.Test.YtfkckhliffbcjaaWInvWords
import Derived.Test.YtfkckhliffbcjaaWGuard
import Derived.Test.YtfkckhliffbcjaaWNEv
import Derived.Test.YtfkckhliffbcjaaWMore
namespace Go.Proofs.Ytfkckhliffbcjaa.X
open Go.RowKit Go.Proofs.YtfkckhliffbcjaaW.PrintWords Go.Proofs.YtfkckhliffbcjaaW.PrintLast Go.Proofs.YtfkckhliffbcjaaW.PrintMore
attribute [local go_sem] max2_int min2_int max_two min_two max_three min_three max_four min_four   -- for this text's walks alone
set_option linter.unusedVariables false
set_option linter.unusedSimpArgs false



def errW : Option Int → Value
  | none => .nilIface
  | some c => .iface 0 (.int .i64 c)
theorem errW_none : errW none = .nilIface := rfl
theorem errW_some (c : Int) : errW (some c) = .iface 0 (.int .i64 c) := rfl

theorem info3 : (Try.prog.info? 3).map (fun i => (i.zero, i.size, i.bytes)) = some (some (.int .i64 0), 1, 8) := by kernel_rfl
-- the values' own types

end Go.Proofs.Ytfkckhliffbcjaa.X
