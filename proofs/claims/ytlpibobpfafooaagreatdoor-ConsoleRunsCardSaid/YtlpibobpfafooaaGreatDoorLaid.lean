/-
  What the rows of this seat say of the table of powers.
-/
import Derived.Test.YtlpibobpfafooaaGreatDoorRows
import Derived.Test.YtlpibobpfafooaaGreatDoorConE
import Derived.Stop.LaidErr
import Derived.Lib.LaidTab
set_option linter.unusedVariables false
namespace Go.Proofs.YtlpibobpfafooaaGreatDoor.H
open Go.RowKit

set_option maxRecDepth 100000 in
theorem tabW_of (W : World) (h : laidMet Tryz.prog (("math/bits.deBruijn32tab", Rows.laid_math_bits_deBruijn32tab) :: ("math/bits.deBruijn64tab", Rows.laid_math_bits_deBruijn64tab) :: ("internal/strconv.uint64pow10", Rows.laid_internal_strconv_uint64pow10) ::
    [("unicode/utf8.acceptRanges", Rows.laid_unicode_utf8_acceptRanges), ("strconv.ErrRange", Rows.laid_strconv_ErrRange), ("strconv.ErrSyntax", Rows.laid_strconv_ErrSyntax), ("unicode/utf8.first", Rows.laid_unicode_utf8_first)]) W) : TabW W := by
  have e : (Rows.laid_internal_strconv_uint64pow10 : DataW Unit) = Lib.tabData .u64 Lib.pow10Tab := by kernel_rfl
  rw [e] at h
  exact Lib.tabIs_of_head (g := 3) (t := 162) (e := 72) (n := 20) (by kernel_rfl) (by kernel_rfl) Tryz.underlying162 Tryz.underlying72 (by kernel_rfl) (by kernel_rfl) (laidMet.tail (laidMet.tail h))
end Go.Proofs.YtlpibobpfafooaaGreatDoor.H
