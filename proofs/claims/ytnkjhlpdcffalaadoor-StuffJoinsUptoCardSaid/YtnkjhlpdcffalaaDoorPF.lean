/- What the program's functions at this seat come to, each with its walk; written by a program of this repo. -/
import Derived.Test.YtnkjhlpdcffalaaDoorPF0
import Derived.Test.YtnkjhlpdcffalaaDoorPF1
import Derived.Test.YtnkjhlpdcffalaaDoorPF2
import Derived.Test.YtnkjhlpdcffalaaDoorPF3
import Derived.Test.YtnkjhlpdcffalaaDoorPF4
namespace Go.Proofs.YtnkjhlpdcffalaaDoor.PF
open Go.RowKit Go.Proofs.YtnkjhlpdcffalaaDoorW.PrintWords Go.Proofs.YtnkjhlpdcffalaaDoorW.PrintLast Go.Proofs.YtnkjhlpdcffalaaDoorW.PrintMore
attribute [local go_sem] max2_int min2_int max_two min_two max_three min_three max_four min_four   -- for this text's walks alone
set_option linter.unusedVariables false
set_option linter.unusedSimpArgs false

end Go.Proofs.YtnkjhlpdcffalaaDoor.PF
