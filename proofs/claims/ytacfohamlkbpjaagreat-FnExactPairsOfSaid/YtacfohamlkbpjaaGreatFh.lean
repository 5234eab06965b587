/- Functions of the program, each with what it gives back. -/
import Derived.Test.YtacfohamlkbpjaaGreatKe
import Derived.Test.YtacfohamlkbpjaaGreatChecked
import Derived.IntWalk
import Derived.Test.YtacfohamlkbpjaaGreatFg
namespace Go.Proofs.YtacfohamlkbpjaaGreat
open Go Go.RowKit Go.IntWalk
open Enc (sz cs)
attribute [local irreducible] IntKind.wrap

theorem zD_down {d : Dsk} {b : Bool} : zD { d with down := b } = zD d := rfl

end Go.Proofs.YtacfohamlkbpjaaGreat
