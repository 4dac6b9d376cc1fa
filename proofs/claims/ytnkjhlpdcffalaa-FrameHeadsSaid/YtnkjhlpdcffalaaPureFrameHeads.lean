/-
  FrameHeads as a statement on the printed function, proved.
-/
import Derived.Test.YtnkjhlpdcffalaaPureG
namespace Go.Proofs.Ytnkjhlpdcffalaa.Pure
open Go.RowKit Go.Proofs.Ytnkjhlpdcffalaa.PF
theorem FrameHeads : withylaw3_FrameHeads.Pure := fun a b m _ _ _ => Go.Proofs.Ytnkjhlpdcffalaa.Sp.heads_pure a b m
end Go.Proofs.Ytnkjhlpdcffalaa.Pure
