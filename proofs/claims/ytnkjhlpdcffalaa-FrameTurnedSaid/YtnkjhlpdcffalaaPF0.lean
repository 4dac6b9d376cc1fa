/- What the program's functions at this seat come to, each with its walk; written by a program of this repo. -/
import Derived.Test.YtnkjhlpdcffalaaProg
import Derived.Below
import Derived.Deep.Draws
import Derived.Deep.AppendLies
import Derived.Maps.AppendAt
import Derived.OwnWalk
import Derived.Laws.BytesArg
import Derived.Laws.MakeOwn
import Derived.Laws.OwnMore
import Derived.Deep.OwnRows
import Derived.Tactics
import Derived.Lib.ConvBytes
import Derived.Laws.Slices
import Derived.WalkKit
import Derived.KernelRfl
import Derived.RowKit3
import Derived.Deep.LoopGhost
import Derived.Deep.QuietTactic
import Derived.BigQuiet
import Derived.WideLaws
import Derived.Deep.DeepCutAuto
import Derived.Deep.CutBlock
import Derived.Deep.RegionHeld3
import Derived.Laws.Rows
import Derived.Lib.AppendStr
import Derived.ArgAppend
import Derived.Laws.IdiomCopy
import Derived.OrdersHeld
import Derived.Laws.BitsLemmas
import Derived.RowKit
import Derived.Test.YtnkjhlpdcffalaaHandB
import Derived.Test.YtnkjhlpdcffalaaHandC
import Derived.Test.YtnkjhlpdcffalaaWWords
import Derived.Test.YtnkjhlpdcffalaaWLast
import Derived.Test.YtnkjhlpdcffalaaWTab
import Derived.Test.YtnkjhlpdcffalaaWFour
import Derived.Test.YtnkjhlpdcffalaaWQPut
import Derived.Test.YtnkjhlpdcffalaaWApart
import Derived.Test.YtnkjhlpdcffalaaWArr
import Derived.Test.YtnkjhlpdcffalaaWZeros
import Derived.Test.YtnkjhlpdcffalaaWFoot
import Derived.Test.YtnkjhlpdcffalaaWKept
import Derived.Test.YtnkjhlpdcffalaaWShare
import Derived.Test.YtnkjhlpdcffalaaWN
import Derived.Test.YtnkjhlpdcffalaaWFootNe
import Derived.Test.YtnkjhlpdcffalaaWAt
import Derived.Test.YtnkjhlpdcffalaaWEqStruct
import Derived.Test.YtnkjhlpdcffalaaWRepsOne
import Derived.Test.YtnkjhlpdcffalaaWInv
import Derived.Test.YtnkjhlpdcffalaaWInvWords
import Derived.Test.YtnkjhlpdcffalaaWGuard
import Derived.Test.YtnkjhlpdcffalaaWNEv
import Derived.Test.YtnkjhlpdcffalaaWMore
namespace Go.Proofs.Ytnkjhlpdcffalaa.PF
open Go.RowKit Go.Proofs.YtnkjhlpdcffalaaW.PrintWords Go.Proofs.YtnkjhlpdcffalaaW.PrintLast Go.Proofs.YtnkjhlpdcffalaaW.PrintMore
attribute [local go_sem] max2_int min2_int max_two min_two max_three min_three max_four min_four   -- for this text's walks alone
set_option linter.unusedVariables false
set_option linter.unusedSimpArgs false



def errW : Option Int → Value
  | none => .nilIface
  | some c => .iface 0 (.int .i64 c)
theorem errW_none : errW none = .nilIface := rfl
theorem errW_some (c : Int) : errW (some c) = .iface 0 (.int .i64 c) := rfl

theorem info5 : (Try.prog.info? 5).map (fun i => (i.zero, i.size, i.bytes)) = some (some (.int .u8 0), 1, 1) := by kernel_rfl
-- the values' own types

end Go.Proofs.Ytnkjhlpdcffalaa.PF
