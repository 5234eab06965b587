/- Functions of the program, each with what it gives back. -/
import Derived.Test.YtopnaijeicknoaaGreatDoorKe
import Derived.Test.YtopnaijeicknoaaGreatDoorChecked
import Derived.IntWalk
import Derived.Test.YtopnaijeicknoaaGreatDoorMb
import Derived.Test.YtopnaijeicknoaaGreatDoorMc
import Derived.Test.YtopnaijeicknoaaGreatDoorMd
import Derived.Test.YtopnaijeicknoaaGreatDoorMf
import Derived.Test.YtopnaijeicknoaaGreatDoorMk
namespace Go.Proofs.YtopnaijeicknoaaGreatDoor
open Go Go.RowKit Go.IntWalk
open Enc (sz cs)
attribute [local irreducible] IntKind.wrap

attribute [local irreducible] mdN
theorem mdN_z {s : List Df} (h : s.length ≤ 2000000) : zMdb (mdN s) ≤ 2000000 := by
  have hc : ∀ n, cnt zTab (List.replicate n ([] : List (List Vl))) = 0 := fun n => by
    induction n with
    | zero => rfl
    | succ n ih => rw [List.replicate_succ]; simp [cnt, ih, zTab]
  by_cases e : fbN s = -1
  · rw [mdN_y e]
    unfold zMdb
    rw [hc, List.length_replicate]; omega
  · rw [mdN_n e]; show 0 ≤ _; omega
theorem mdN_c {s : List Df} : cnt cTb (mdN s) = 0 := by
  have hc : ∀ n, cnt cTb (List.replicate n ([] : List (List Vl))) = 0 := fun n => by
    induction n with
    | zero => rfl
    | succ n ih => rw [List.replicate_succ]; simp [cnt, ih, cTb]
  by_cases e : fbN s = -1
  · rw [mdN_y e, hc]
  · rw [mdN_n e]; rfl
theorem cDf_z : ∀ {s : List Df}, cnt cDf s ≤ 10 * zSc s := by
  have hI : ∀ l : List Ix, cnt cIx l ≤ 2 * (l.length + cnt zIx l) := fun l => by
    induction l with
    | nil => simp [cnt]
    | cons x l ih => simp only [cnt, cIx, zIx, List.length_cons] at *; omega
  intro s
  induction s with
  | nil => simp [cnt]
  | cons d s ih =>
    have := hI d.idx
    unfold zSc at *
    simp only [cnt, cDf, zDf, List.length_cons] at *
    omega

end Go.Proofs.YtopnaijeicknoaaGreatDoor
