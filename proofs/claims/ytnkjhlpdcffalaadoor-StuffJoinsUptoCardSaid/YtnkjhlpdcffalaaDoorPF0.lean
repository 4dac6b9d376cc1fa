/- What the program's functions at this seat come to, each with its walk; written by a program of this repo. -/
import Derived.Test.YtnkjhlpdcffalaaDoorProg
import Derived.Below
import Derived.Deep.Draws
import Derived.Deep.AppendLies
import Derived.Maps.AppendAt
import Derived.OwnWalk
import Derived.Laws.BytesArg
import Derived.Laws.MakeOwn
import Derived.Laws.OwnMore
import Derived.Deep.OwnRows
import Derived.Tactics
import Derived.Lib.ConvBytes
import Derived.Laws.Slices
import Derived.WalkKit
import Derived.KernelRfl
import Derived.RowKit3
import Derived.Deep.LoopGhost
import Derived.Deep.QuietTactic
import Derived.BigQuiet
import Derived.WideLaws
import Derived.Deep.DeepCutAuto
import Derived.Deep.CutBlock
import Derived.Deep.RegionHeld3
import Derived.Laws.Rows
import Derived.Lib.AppendStr
import Derived.ArgAppend
import Derived.Laws.IdiomCopy
import Derived.OrdersHeld
import Derived.Laws.BitsLemmas
import Derived.RowKit
import Derived.Test.YtnkjhlpdcffalaaDoorHandB
import Derived.Test.YtnkjhlpdcffalaaDoorHandC
import Derived.Test.YtnkjhlpdcffalaaDoorHandE
import Derived.Test.YtnkjhlpdcffalaaDoorWWords
import Derived.Test.YtnkjhlpdcffalaaDoorWLast
import Derived.Test.YtnkjhlpdcffalaaDoorWTab
import Derived.Test.YtnkjhlpdcffalaaDoorWFour
import Derived.Test.YtnkjhlpdcffalaaDoorWQPut
import Derived.Test.YtnkjhlpdcffalaaDoorWApart
import Derived.Test.YtnkjhlpdcffalaaDoorWArr
import Derived.Test.YtnkjhlpdcffalaaDoorWZeros
import Derived.Test.YtnkjhlpdcffalaaDoorWFoot
import Derived.Test.YtnkjhlpdcffalaaDoorWKept
import Derived.Test.YtnkjhlpdcffalaaDoorWShare
import Derived.Test.YtnkjhlpdcffalaaDoorWN
import Derived.Test.YtnkjhlpdcffalaaDoorWFootNe
import Derived.Test.YtnkjhlpdcffalaaDoorWAt
import Derived.Test.YtnkjhlpdcffalaaDoorWEqStruct
import Derived.Test.YtnkjhlpdcffalaaDoorWRepsOne
import Derived.Test.YtnkjhlpdcffalaaDoorWInv
import Derived.Test.YtnkjhlpdcffalaaDoorWInvWords
import Derived.Test.YtnkjhlpdcffalaaDoorWGuard
import Derived.Test.YtnkjhlpdcffalaaDoorWNEv
import Derived.Test.YtnkjhlpdcffalaaDoorWMore
namespace Go.Proofs.YtnkjhlpdcffalaaDoor.PF
open Go.RowKit Go.Proofs.YtnkjhlpdcffalaaDoorW.PrintWords Go.Proofs.YtnkjhlpdcffalaaDoorW.PrintLast Go.Proofs.YtnkjhlpdcffalaaDoorW.PrintMore
attribute [local go_sem] max2_int min2_int max_two min_two max_three min_three max_four min_four   -- for this text's walks alone
set_option linter.unusedVariables false
set_option linter.unusedSimpArgs false



def errW : Option Int → Value
  | none => .nilIface
  | some c => .iface 0 (.int .i64 c)
theorem errW_none : errW none = .nilIface := rfl
theorem errW_some (c : Int) : errW (some c) = .iface 0 (.int .i64 c) := rfl

theorem info5 : (Tryd.prog.info? 5).map (fun i => (i.zero, i.size, i.bytes)) = some (some (.int .u8 0), 1, 1) := by kernel_rfl
theorem info9 : (Tryd.prog.info? 9).map (fun i => (i.zero, i.size, i.bytes)) = some (some (.string ⟨#[]⟩), 1, 16) := by kernel_rfl
-- the values' own types

end Go.Proofs.YtnkjhlpdcffalaaDoor.PF
