/- What the program's functions at this seat come to, each with its walk; written by a program of this repo. -/
import Derived.Test.YtcdlgiabpjkjoaaDoorPM0
import Derived.Test.YtcdlgiabpjkjoaaDoorPM1
import Derived.Test.YtcdlgiabpjkjoaaDoorPM2
import Derived.Test.YtcdlgiabpjkjoaaDoorPM3
import Derived.Test.YtcdlgiabpjkjoaaDoorPM4
namespace Go.Proofs.YtcdlgiabpjkjoaaDoor.PM
open Go.RowKit Go.Proofs.YtcdlgiabpjkjoaaDoorW.PrintWords Go.Proofs.YtcdlgiabpjkjoaaDoorW.PrintLast Go.Proofs.YtcdlgiabpjkjoaaDoorW.PrintMore
attribute [local go_sem] max2_int min2_int max_two min_two max_three min_three max_four min_four   -- for this text's walks alone
set_option linter.unusedVariables false
set_option linter.unusedSimpArgs false

end Go.Proofs.YtcdlgiabpjkjoaaDoor.PM
