/- Functions of the program, each with what it gives back. -/
import Derived.Test.YtkggnekdjdnhiaaKe
import Derived.Test.YtkggnekdjdnhiaaChecked
import Derived.IntWalk
import Derived.Test.YtkggnekdjdnhiaaFg
namespace Go.Proofs.Ytkggnekdjdnhiaa
open Go Go.RowKit Go.IntWalk
open Enc (sz cs)
attribute [local irreducible] IntKind.wrap

theorem zD_down {d : Dsk} {b : Bool} : zD { d with down := b } = zD d := rfl

end Go.Proofs.Ytkggnekdjdnhiaa
