-- Printed by this session's own turn (xprint) of the kit's print; Lean checks it.
import Derived.Test.YtfkckhliffbcjaaDoorProg
import Derived.Below
import Derived.Deep.Draws
import Derived.Deep.AppendLies
import Derived.Maps.AppendAt
import Derived.OwnWalk
import Derived.Laws.BytesArg
import Derived.Laws.MakeOwn
import Derived.Laws.OwnMore
import Derived.Deep.OwnRows
import Derived.Tactics
import Derived.Lib.ConvBytes
import Derived.Laws.Slices
import Derived.WalkKit
import Derived.KernelRfl
import Derived.RowKit3
import Derived.Deep.LoopGhost
import Derived.Deep.QuietTactic
import Derived.BigQuiet
import Derived.WideLaws
import Derived.Deep.DeepCutAuto
import Derived.Deep.CutBlock
import Derived.Deep.RegionHeld3
import Derived.Laws.Rows
import Derived.Lib.AppendStr
import Derived.ArgAppend
import Derived.Laws.IdiomCopy
import Derived.OrdersHeld
import Derived.Laws.BitsLemmas
import Derived.RowKit
import Derived.Test.YtfkckhliffbcjaaDoorWWords
import Derived.Test.YtfkckhliffbcjaaDoorWLast
import Derived.Test.YtfkckhliffbcjaaDoorWTab
import Derived.Test.YtfkckhliffbcjaaDoorWFour
import Derived.Test.YtfkckhliffbcjaaDoorWQPut
import Derived.Test.YtfkckhliffbcjaaDoorWApart
import Derived.Test.YtfkckhliffbcjaaDoorWArr
import Derived.Test.YtfkckhliffbcjaaDoorWZeros
import Derived.Test.YtfkckhliffbcjaaDoorWFoot
import Derived.Test.YtfkckhliffbcjaaDoorWKept
import Derived.Test.YtfkckhliffbcjaaDoorWShare
import Derived.Test.YtfkckhliffbcjaaDoorWN
import Derived.Test.YtfkckhliffbcjaaDoorWFootNe
import Derived.Test.YtfkckhliffbcjaaDoorWAt
import Derived.Test.YtfkckhliffbcjaaDoorWEqStruct
import Derived.Test.YtfkckhliffbcjaaDoorWRepsOne
import Derived.Test.YtfkckhliffbcjaaDoorWInv
import Derived.Test.YtfkckhliffbcjaaDoorWInvWords
import Derived.Test.YtfkckhliffbcjaaDoorWGuard
import Derived.Test.YtfkckhliffbcjaaDoorWNEv
import Derived.Test.YtfkckhliffbcjaaDoorWMore
namespace Go.Proofs.YtfkckhliffbcjaaDoor.Z
open Go.RowKit Go.Proofs.YtfkckhliffbcjaaDoorW.PrintWords Go.Proofs.YtfkckhliffbcjaaDoorW.PrintLast Go.Proofs.YtfkckhliffbcjaaDoorW.PrintMore
attribute [local go_sem] max2_int min2_int max_two min_two max_three min_three max_four min_four   -- for this text's walks alone
set_option linter.unusedVariables false
set_option linter.unusedSimpArgs false



def errW : Option Int → Value
  | none => .nilIface
  | some c => .iface 0 (.int .i64 c)
theorem errW_none : errW none = .nilIface := rfl
theorem errW_some (c : Int) : errW (some c) = .iface 0 (.int .i64 c) := rfl

theorem info21 : (Tryd.prog.info? 21).map (fun i => (i.zero, i.size, i.bytes)) = some (some (.int .i32 0), 1, 4) := by kernel_rfl
theorem info35 : (Tryd.prog.info? 35).map (fun i => (i.zero, i.size, i.bytes)) = some (some (.int .u64 0), 1, 8) := by kernel_rfl
-- the values' own types

end Go.Proofs.YtfkckhliffbcjaaDoor.Z
