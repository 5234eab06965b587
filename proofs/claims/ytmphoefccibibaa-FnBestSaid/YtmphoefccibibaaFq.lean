/- Functions of the program, each with what it gives back. -/
import Derived.Test.YtmphoefccibibaaKe
import Derived.Test.YtmphoefccibibaaChecked
import Derived.IntWalk
import Derived.Test.YtmphoefccibibaaFp
namespace Go.Proofs.Ytmphoefccibibaa
open Go Go.RowKit Go.IntWalk
open Enc (sz cs)
attribute [local irreducible] IntKind.wrap

/-- Is a number in a list? -/
def hasI (l : List Int) (n : Int) : Bool := decide (n ∈ l)
theorem hasI_no {l : List Int} {n : Int} (h : ∀ j (hj : j < l.length), l[j] ≠ n) : hasI l n = false := by
  unfold hasI
  rw [decide_eq_false_iff_not]
  intro hm
  obtain ⟨i, hi, e⟩ := List.getElem_of_mem hm
  exact h i hi e
theorem hasI_at {l : List Int} {n : Int} {i : Nat} (hi : i < l.length) (h : l[i] = n) : hasI l n = true := by
  unfold hasI
  rw [decide_eq_true_eq, ← h]
  exact List.getElem_mem hi

end Go.Proofs.Ytmphoefccibibaa
