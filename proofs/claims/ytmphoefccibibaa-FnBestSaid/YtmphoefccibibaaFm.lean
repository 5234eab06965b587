/- Functions of the program, each with what it gives back. -/
import Derived.Test.YtmphoefccibibaaKe
import Derived.Test.YtmphoefccibibaaChecked
import Derived.IntWalk
import Derived.Test.YtmphoefccibibaaFl
namespace Go.Proofs.Ytmphoefccibibaa
open Go Go.RowKit Go.IntWalk
open Enc (sz cs)
attribute [local irreducible] IntKind.wrap

attribute [local irreducible] gU gT gS gP gM ptP ptM ptS crcN rdS bdN
theorem zSS_snoc {l : List ByteArray} {s : ByteArray} (h : zSS l ≤ 500 * l.length) (hs : s.size ≤ 300) : zSS (l ++ [s]) ≤ 500 * (l ++ [s]).length := by
  unfold zSS at *
  rw [cnt_app]
  simp [cnt]; omega
theorem bdN_pos (x : Nod) : 0 < (bdN x).length := by rw [bdN]; simp

end Go.Proofs.Ytmphoefccibibaa
