/- Functions of the program, each with what it gives back. -/
import Derived.Test.YtopnaijeicknoaaGreatDoorKe
import Derived.Test.YtopnaijeicknoaaGreatDoorChecked
import Derived.IntWalk
import Derived.Test.YtopnaijeicknoaaGreatDoorMj
namespace Go.Proofs.YtopnaijeicknoaaGreatDoor
open Go Go.RowKit Go.IntWalk
open Enc (sz cs)
attribute [local irreducible] IntKind.wrap

attribute [local irreducible] fbN
abbrev Tbs := List (List (List Vl))
/-- Tables without rows. -/
noncomputable def mdN (s : List Df) : Tbs := if fbN s = -1 then List.replicate s.length [] else []
theorem mdN_y {s : List Df} (h : fbN s = -1) : mdN s = List.replicate s.length [] := if_pos h
theorem mdN_n {s : List Df} (h : ¬ fbN s = -1) : mdN s = [] := if_neg h
theorem rep_nilT (q : Nat) : List.replicate q (Cell.sl true 0 1 []) = cs true (List.replicate q ([] : List (List Vl))) := by
  show _ = (List.replicate q ([] : List (List Vl))).map _
  rw [List.map_replicate]; rfl
theorem rep_snoT (q : Nat) : cs true (List.replicate q ([] : List (List Vl))) ++ [slE true ([] : List (List Vl))] ++ [] = cs true (List.replicate (q + 1) ([] : List (List Vl))) := by
  rw [List.replicate_succ', Enc.app, List.append_nil]; rfl

theorem w_nlT {n : Nat} {t h nx tn} (i s' : Nat) (A C : List Cell) {cs0 cs1 : List Cell} (hi : look none h i = some (true, cs0) := by rfl) (h1 : cs0 = A ++ [.nil] ++ C := by first | rfl | simp) (h2 : A ++ [.sl true 0 s' []] ++ C = cs1 := by rfl) :
    WGh n ⟨t, h, nx, tn⟩ ⟨t, (i, some (true, cs1)) :: h, nx, tn⟩ := by
  subst h1 h2
  exact w_node i hi (CWs.app (CWs.app (CWs.refl _) (.cons .nilO .nil)) (CWs.refl _))

end Go.Proofs.YtopnaijeicknoaaGreatDoor
