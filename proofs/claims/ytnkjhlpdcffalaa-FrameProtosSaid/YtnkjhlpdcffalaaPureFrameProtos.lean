/-
  FrameProtos as a statement on the printed function, proved.
-/
import Derived.Test.YtnkjhlpdcffalaaPureG
namespace Go.Proofs.Ytnkjhlpdcffalaa.Pure
open Go.RowKit Go.Proofs.Ytnkjhlpdcffalaa.PF
theorem FrameProtos : withylaw3_FrameProtos.Pure := fun p s _ _ => Go.Proofs.Ytnkjhlpdcffalaa.Sp.protos_pure p s
end Go.Proofs.Ytnkjhlpdcffalaa.Pure
