/- What the program's functions at this seat come to, each with its walk; written by a program of this repo. -/
import Derived.Test.YtnkjhlpdcffalaaDoorPB0
import Derived.Test.YtnkjhlpdcffalaaDoorPB1
import Derived.Test.YtnkjhlpdcffalaaDoorPB2
import Derived.Test.YtnkjhlpdcffalaaDoorPB3
import Derived.Test.YtnkjhlpdcffalaaDoorPB4
import Derived.Test.YtnkjhlpdcffalaaDoorPB5
namespace Go.Proofs.YtnkjhlpdcffalaaDoor.PB
open Go.RowKit Go.Proofs.YtnkjhlpdcffalaaDoorW.PrintWords Go.Proofs.YtnkjhlpdcffalaaDoorW.PrintLast Go.Proofs.YtnkjhlpdcffalaaDoorW.PrintMore
attribute [local go_sem] max2_int min2_int max_two min_two max_three min_three max_four min_four   -- for this text's walks alone
set_option linter.unusedVariables false
set_option linter.unusedSimpArgs false

end Go.Proofs.YtnkjhlpdcffalaaDoor.PB
