/-
  A set of blocks.
-/
import Derived.Test.YtchceegpbfecaaaDoorIterN
namespace Go.Proofs.YtchceegpbfecaaaDoor
abbrev Blk := Nat → Prop
end Go.Proofs.YtchceegpbfecaaaDoor
