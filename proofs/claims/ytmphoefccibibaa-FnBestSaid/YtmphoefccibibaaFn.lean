/- Functions of the program, each with what it gives back. -/
import Derived.Test.YtmphoefccibibaaKe
import Derived.Test.YtmphoefccibibaaChecked
import Derived.IntWalk
import Derived.Test.YtmphoefccibibaaFm
namespace Go.Proofs.Ytmphoefccibibaa
open Go Go.RowKit Go.IntWalk
open Enc (sz cs)
attribute [local irreducible] IntKind.wrap

attribute [local irreducible] gU gT gS gP gM ptP ptM ptS crcN rdS bdN
/-- A number, a text that is read, where nothing was wrong so far: it, where it goes on, is something wrong now? -/
def nmR (b : List UInt8) (p : Nat) (bad : Bool) : Nat × Nat × Bool := if bad = false ∧ (gU b p).2.2 = true then ((gU b p).1, (gU b p).2.1, false) else (0, p, true)
def txR (b : List UInt8) (p : Nat) (bad : Bool) : List UInt8 × Nat × Bool := if bad = false ∧ (gT b p).2.2 = true then ((gT b p).1, (gT b p).2.1, false) else ([], p, true)
theorem nmR_yes {b : List UInt8} {p : Nat} (h : (gU b p).2.2 = true) : nmR b p false = ((gU b p).1, (gU b p).2.1, false) := if_pos ⟨rfl, h⟩
theorem nmR_no {b : List UInt8} {p : Nat} {bad : Bool} (h : ¬ (bad = false ∧ (gU b p).2.2 = true)) : nmR b p bad = (0, p, true) := if_neg h
theorem txR_yes {b : List UInt8} {p : Nat} (h : (gT b p).2.2 = true) : txR b p false = ((gT b p).1, (gT b p).2.1, false) := if_pos ⟨rfl, h⟩
theorem txR_no {b : List UInt8} {p : Nat} {bad : Bool} (h : ¬ (bad = false ∧ (gT b p).2.2 = true)) : txR b p bad = ([], p, true) := if_neg h
abbrev aR (b : List UInt8) (p : Nat) (bad : Bool) : Arg := .own true 0 0 [slE false b, i6 (p : Nat), b1 bad]
abbrev oR (b : List UInt8) (p : Nat) (bad : Bool) : Option (List Cell) := some [slE false b, i6 (p : Nat), b1 bad]

end Go.Proofs.Ytmphoefccibibaa
