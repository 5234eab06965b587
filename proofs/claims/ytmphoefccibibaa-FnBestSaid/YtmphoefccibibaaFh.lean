/- Functions of the program, each with what it gives back. -/
import Derived.Test.YtmphoefccibibaaKe
import Derived.Test.YtmphoefccibibaaChecked
import Derived.IntWalk
import Derived.Test.YtmphoefccibibaaFg
namespace Go.Proofs.Ytmphoefccibibaa
open Go Go.RowKit Go.IntWalk
open Enc (sz cs)
attribute [local irreducible] IntKind.wrap

/-- Held so that nothing but the step takes it. -/
structure Wrp (Q : Prop) : Prop where
  h : Q
theorem jst {P Q : Prop} (k : Q) (h : Wrp Q → P := by first | exact fun k => jS k.h | exact fun k => jI k.h | exact fun k => jD k.h | exact fun k => ⟨snc, _, snr, k.h⟩ | exact fun k => ⟨⟨Nat.le_refl _, rfl⟩, [], rfl, k.h⟩ | exact fun k => And.intro ⟨rfl, rfl, by decide, rfl⟩ k.h | exact fun k => jP k.h | exact fun k => jO k.h | exact fun k => jX k.h | exact fun k => jb jr k.h | exact fun k => jb ofs k.h | exact fun k => ko jc k.h | exact fun k => ko jp k.h | exact fun k => jM k.h | exact fun k => kr k.h | exact fun k => ko rfl k.h | exact fun k => And.intro (cs_shal _) k.h | exact fun k => And.intro (rfl : List.all _ _ = true) k.h | exact fun k => And.intro ⟨rfl, (rfl : List.all _ _ = true)⟩ k.h) : P := h ⟨k⟩

theorem zD_down {d : Dsk} {b : Bool} : zD { d with down := b } = zD d := rfl

end Go.Proofs.Ytmphoefccibibaa
