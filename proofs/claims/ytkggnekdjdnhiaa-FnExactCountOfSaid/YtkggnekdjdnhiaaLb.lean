/- Functions of the program, each with what it gives back. -/
import Derived.Test.YtkggnekdjdnhiaaKe
import Derived.Test.YtkggnekdjdnhiaaChecked
import Derived.IntWalk
import Derived.Test.YtkggnekdjdnhiaaLa
namespace Go.Proofs.Ytkggnekdjdnhiaa
open Go Go.RowKit Go.IntWalk
open Enc (sz cs)
attribute [local irreducible] IntKind.wrap



end Go.Proofs.Ytkggnekdjdnhiaa
