/-
  FrameMaps as a statement on the printed function, proved.
-/
import Derived.Test.YtnkjhlpdcffalaaPureF
namespace Go.Proofs.Ytnkjhlpdcffalaa.Pure
open Go.RowKit Go.Proofs.Ytnkjhlpdcffalaa.PF
theorem FrameMaps : withylaw3_FrameMaps.Pure := fun s a b _ _ _ => Go.Proofs.Ytnkjhlpdcffalaa.Sp.maps_pure s a b
end Go.Proofs.Ytnkjhlpdcffalaa.Pure
