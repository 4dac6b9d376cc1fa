/- What the program's functions at this seat come to, each with its walk; written by a program of this repo. -/
import Derived.Test.YtnkjhlpdcffalaaPF0
import Derived.Test.YtnkjhlpdcffalaaPF1
import Derived.Test.YtnkjhlpdcffalaaPF2
import Derived.Test.YtnkjhlpdcffalaaPF3
import Derived.Test.YtnkjhlpdcffalaaPF4
import Derived.Test.YtnkjhlpdcffalaaPF5
import Derived.Test.YtnkjhlpdcffalaaPF6
import Derived.Test.YtnkjhlpdcffalaaPF7
namespace Go.Proofs.Ytnkjhlpdcffalaa.PF
open Go.RowKit Go.Proofs.YtnkjhlpdcffalaaW.PrintWords Go.Proofs.YtnkjhlpdcffalaaW.PrintLast Go.Proofs.YtnkjhlpdcffalaaW.PrintMore
attribute [local go_sem] max2_int min2_int max_two min_two max_three min_three max_four min_four   -- for this text's walks alone
set_option linter.unusedVariables false
set_option linter.unusedSimpArgs false

end Go.Proofs.Ytnkjhlpdcffalaa.PF
