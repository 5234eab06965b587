/- Functions of the program, each with what it gives back. -/
import Derived.Test.YtmphoefccibibaaKe
import Derived.Test.YtmphoefccibibaaChecked
import Derived.IntWalk
import Derived.Test.YtmphoefccibibaaFk
namespace Go.Proofs.Ytmphoefccibibaa
open Go Go.RowKit Go.IntWalk
open Enc (sz cs)
attribute [local irreducible] IntKind.wrap

attribute [local irreducible] gU gT gS gP gM ptP ptM ptS crcN rdS bdN

open Classical in
/-- Keys are right. -/
noncomputable def keyOk (keys : List ByteArray) : Bool := decide (∀ j (h : j < keys.length), keys[j].size ≤ 48 ∧ (0 < j → Op.bytesLess keys[j - 1].toList keys[j].toList = true))
theorem keyOk_iff {keys : List ByteArray} : keyOk keys = true ↔ ∀ j (h : j < keys.length), keys[j].size ≤ 48 ∧ (0 < j → Op.bytesLess keys[j - 1].toList keys[j].toList = true) := by unfold keyOk; simp only [decide_eq_true_eq]
theorem keyOk_no {keys : List ByteArray} (h : ¬ ∀ j (h : j < keys.length), keys[j].size ≤ 48 ∧ (0 < j → Op.bytesLess keys[j - 1].toList keys[j].toList = true)) : keyOk keys = false := by unfold keyOk; simp only [h, decide_false]
theorem keyOk_bad {keys : List ByteArray} (h : keyOk keys = false) : ¬ ∀ j (h : j < keys.length), keys[j].size ≤ 48 ∧ (0 < j → Op.bytesLess keys[j - 1].toList keys[j].toList = true) := fun q => by rw [keyOk_iff.2 q] at h; cases h

end Go.Proofs.Ytmphoefccibibaa
