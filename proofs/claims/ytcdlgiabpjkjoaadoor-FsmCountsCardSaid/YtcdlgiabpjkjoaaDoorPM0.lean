/- What the program's functions at this seat come to, each with its walk; written by a program of this repo. -/
import Derived.Test.YtcdlgiabpjkjoaaDoorProg
import Derived.Below
import Derived.Deep.Draws
import Derived.Deep.AppendLies
import Derived.Maps.AppendAt
import Derived.OwnWalk
import Derived.Laws.BytesArg
import Derived.Laws.MakeOwn
import Derived.Laws.OwnMore
import Derived.Deep.OwnRows
import Derived.Tactics
import Derived.Lib.ConvBytes
import Derived.Laws.Slices
import Derived.WalkKit
import Derived.KernelRfl
import Derived.RowKit3
import Derived.Deep.LoopGhost
import Derived.Deep.QuietTactic
import Derived.BigQuiet
import Derived.WideLaws
import Derived.Deep.DeepCutAuto
import Derived.Deep.CutBlock
import Derived.Deep.RegionHeld3
import Derived.Laws.Rows
import Derived.Lib.AppendStr
import Derived.ArgAppend
import Derived.Laws.IdiomCopy
import Derived.OrdersHeld
import Derived.Laws.BitsLemmas
import Derived.RowKit
import Derived.Test.YtcdlgiabpjkjoaaDoorFsmH
import Derived.Test.YtcdlgiabpjkjoaaDoorWWords
import Derived.Test.YtcdlgiabpjkjoaaDoorWLast
import Derived.Test.YtcdlgiabpjkjoaaDoorWTab
import Derived.Test.YtcdlgiabpjkjoaaDoorWFour
import Derived.Test.YtcdlgiabpjkjoaaDoorWQPut
import Derived.Test.YtcdlgiabpjkjoaaDoorWApart
import Derived.Test.YtcdlgiabpjkjoaaDoorWArr
import Derived.Test.YtcdlgiabpjkjoaaDoorWZeros
import Derived.Test.YtcdlgiabpjkjoaaDoorWFoot
import Derived.Test.YtcdlgiabpjkjoaaDoorWKept
import Derived.Test.YtcdlgiabpjkjoaaDoorWShare
import Derived.Test.YtcdlgiabpjkjoaaDoorWN
import Derived.Test.YtcdlgiabpjkjoaaDoorWFootNe
import Derived.Test.YtcdlgiabpjkjoaaDoorWAt
import Derived.Test.YtcdlgiabpjkjoaaDoorWEqStruct
import Derived.Test.YtcdlgiabpjkjoaaDoorWRepsOne
import Derived.Test.YtcdlgiabpjkjoaaDoorWInv
import Derived.Test.YtcdlgiabpjkjoaaDoorWInvWords
import Derived.Test.YtcdlgiabpjkjoaaDoorWGuard
import Derived.Test.YtcdlgiabpjkjoaaDoorWNEv
import Derived.Test.YtcdlgiabpjkjoaaDoorWMore
namespace Go.Proofs.YtcdlgiabpjkjoaaDoor.PM
open Go.RowKit Go.Proofs.YtcdlgiabpjkjoaaDoorW.PrintWords Go.Proofs.YtcdlgiabpjkjoaaDoorW.PrintLast Go.Proofs.YtcdlgiabpjkjoaaDoorW.PrintMore
attribute [local go_sem] max2_int min2_int max_two min_two max_three min_three max_four min_four   -- for this text's walks alone
set_option linter.unusedVariables false
set_option linter.unusedSimpArgs false



def errW : Option Int → Value
  | none => .nilIface
  | some c => .iface 0 (.int .i64 c)
theorem errW_none : errW none = .nilIface := rfl
theorem errW_some (c : Int) : errW (some c) = .iface 0 (.int .i64 c) := rfl

theorem info3 : (Tryd.prog.info? 3).map (fun i => (i.zero, i.size, i.bytes)) = some (some (.int .i64 0), 1, 8) := by kernel_rfl
-- the values' own types

end Go.Proofs.YtcdlgiabpjkjoaaDoor.PM
