/- Functions of the program, each with what it gives back. -/
import Derived.Test.YtopnaijeicknoaaGreatDoorKe
import Derived.Test.YtopnaijeicknoaaGreatDoorChecked
import Derived.IntWalk
import Derived.Test.YtopnaijeicknoaaGreatDoorFa
namespace Go.Proofs.YtopnaijeicknoaaGreatDoor
open Go Go.RowKit Go.IntWalk
open Enc (sz cs)
attribute [local irreducible] IntKind.wrap



end Go.Proofs.YtopnaijeicknoaaGreatDoor
