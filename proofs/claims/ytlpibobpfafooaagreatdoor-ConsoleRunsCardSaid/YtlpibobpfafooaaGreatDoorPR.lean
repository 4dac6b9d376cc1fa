/- What the program's functions at this seat come to, each with its walk; written by a program of this repo. -/
import Derived.Test.YtlpibobpfafooaaGreatDoorPR0
import Derived.Test.YtlpibobpfafooaaGreatDoorPR1
import Derived.Test.YtlpibobpfafooaaGreatDoorPR2
import Derived.Test.YtlpibobpfafooaaGreatDoorPR3
import Derived.Test.YtlpibobpfafooaaGreatDoorPR4
import Derived.Test.YtlpibobpfafooaaGreatDoorPR5
namespace Go.Proofs.YtlpibobpfafooaaGreatDoor.PR
open Go.RowKit Go.Proofs.YtlpibobpfafooaaGreatDoorW.PrintWords Go.Proofs.YtlpibobpfafooaaGreatDoorW.PrintLast Go.Proofs.YtlpibobpfafooaaGreatDoorW.PrintMore
attribute [local go_sem] max2_int min2_int max_two min_two max_three min_three max_four min_four   -- for this text's walks alone
set_option linter.unusedVariables false
set_option linter.unusedSimpArgs false

end Go.Proofs.YtlpibobpfafooaaGreatDoor.PR
