/- Functions of the program, each with what it gives back. -/
import Derived.Test.YtopnaijeicknoaaGreatDoorKe
import Derived.Test.YtopnaijeicknoaaGreatDoorChecked
import Derived.IntWalk
import Derived.Test.YtopnaijeicknoaaGreatDoorRb
namespace Go.Proofs.YtopnaijeicknoaaGreatDoor
open Go Go.RowKit Go.IntWalk
open Enc (sz cs)
attribute [local irreducible] IntKind.wrap

set_option maxRecDepth 100000 in
theorem fit_op {d : Nat} {l : List Cell} (h : fitN Tryz.prog (d + 4) 40 l) : ∃ c : Opn, l = cs false [c] ∧ BdRow c.row := by
  obtain ⟨fs, hu⟩ : ∃ fs, Tryz.prog.underlying 40 = some (.struct fs) := ⟨_, rfl⟩
  have h3 : Each (fun (f : Field) l => fitN Tryz.prog (d + 3) f.type l) [_, _, _] l := h
  cases h3 with
  | cons a1 h4 =>
    cases h4 with
    | cons a2 h5 =>
      cases h5 with
      | cons a3 h6 =>
        cases h6
        obtain ⟨x, rfl, w1⟩ := fit_int (d := d + 2) a1 rfl
        obtain ⟨y, rfl, w2⟩ := fit_int (d := d + 2) a2 rfl
        obtain ⟨z, rfl, w3, v3⟩ := fit_sl (d := d + 2) (α := Vl) (Q := fun v => v.s.size ≤ 1000000000000000) a3 rfl rfl (fun l hl => fit_val (d := d) hl)
        exact ⟨⟨x, y, z⟩, rfl, ⟨len_le w3 rfl, v3⟩⟩
set_option maxRecDepth 100000 in
theorem fit_ops {d : Nat} {t : TypeId} {l : List Cell} (h : fitN Tryz.prog (d + 5) t l) (hu : Tryz.prog.underlying t = some (.slice 40)) : ∃ s : List Opn, l = [slE false s] ∧ s.length ≤ 100000000000000 ∧ ∀ x ∈ s, BdRow x.row := by
  obtain ⟨u, rfl, w4, v4⟩ := fit_sl (d := d + 4) (α := Opn) (Q := fun o => BdRow o.row) h hu rfl (fun l hl => fit_op (d := d) hl)
  exact ⟨u, rfl, len_le w4 rfl, v4⟩

end Go.Proofs.YtopnaijeicknoaaGreatDoor
