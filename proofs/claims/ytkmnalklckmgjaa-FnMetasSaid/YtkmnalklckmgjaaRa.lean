/- Functions of the program, each with what it gives back. -/
import Derived.Test.YtkmnalklckmgjaaKe
import Derived.Test.YtkmnalklckmgjaaChecked
import Derived.IntWalk
import Derived.Test.YtkmnalklckmgjaaFa
namespace Go.Proofs.Ytkmnalklckmgjaa
open Go Go.RowKit Go.IntWalk
open Enc (sz cs)
attribute [local irreducible] IntKind.wrap



end Go.Proofs.Ytkmnalklckmgjaa
