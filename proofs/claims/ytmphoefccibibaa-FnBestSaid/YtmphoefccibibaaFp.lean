/- Functions of the program, each with what it gives back. -/
import Derived.Test.YtmphoefccibibaaKe
import Derived.Test.YtmphoefccibibaaChecked
import Derived.IntWalk
import Derived.Test.YtmphoefccibibaaFo
namespace Go.Proofs.Ytmphoefccibibaa
open Go Go.RowKit Go.IntWalk
open Enc (sz cs)
attribute [local irreducible] IntKind.wrap

attribute [local irreducible] gU gT gS gP gM ptP ptM ptS crcN rdS bdN gN pgA ndA
/-- How deep it goes from a sector on, `f` nodes at most. -/
noncomputable def dpF (t : Txn) : Nat → Int → Nat
  | 0, _ => 0
  | f + 1, n => if n = 0 ∨ (ndA t n).2 = false then 0 else match (ndA t n).1.kids with
    | [] => 1
    | k :: _ => 1 + dpF t f k
theorem dpF_end {t : Txn} {f : Nat} {n : Int} (h : n = 0 ∨ (ndA t n).2 = false) : dpF t f n = 0 := by
  cases f with
  | zero => rfl
  | succ f => rw [dpF, if_pos h]
theorem dpF_leaf {t : Txn} {f : Nat} {n : Int} (h : n ≠ 0) (h1 : (ndA t n).2 = true) (h2 : (ndA t n).1.kids.length = 0) : dpF t (f + 1) n = 1 := by
  rw [dpF, if_neg (by rw [h1]; simp [h]), List.length_eq_zero_iff.1 h2]
theorem dpF_go {t : Txn} {f : Nat} {n : Int} (h : n ≠ 0) (h1 : (ndA t n).2 = true) (h2 : 0 < (ndA t n).1.kids.length) : dpF t (f + 1) n = 1 + dpF t f (ndA t n).1.kids[0] := by
  rw [dpF, if_neg (by rw [h1]; simp [h])]
  split
  · rename_i e; simp [e] at h2
  · rename_i k l e; simp [e]

end Go.Proofs.Ytmphoefccibibaa
