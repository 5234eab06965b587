/- Functions of the program, each with what it gives back. -/
import Derived.Test.YtopnaijeicknoaaGreatDoorKe
import Derived.Test.YtopnaijeicknoaaGreatDoorChecked
import Derived.IntWalk
import Derived.Test.YtopnaijeicknoaaGreatDoorRa
import Derived.Test.YtopnaijeicknoaaGreatDoorMa
namespace Go.Proofs.YtopnaijeicknoaaGreatDoor
open Go Go.RowKit Go.IntWalk
open Enc (sz cs)
attribute [local irreducible] IntKind.wrap

set_option maxRecDepth 100000 in
theorem fit_col {d : Nat} {l : List Cell} (h : fitN Tryz.prog (d + 2) 143 l) : ∃ c : Cl, l = cs false [c] ∧ c.name.size ≤ 1000000000000000 := by
  obtain ⟨fs, hu⟩ : ∃ fs, Tryz.prog.underlying 143 = some (.struct fs) := ⟨_, rfl⟩
  have h3 : Each (fun (f : Field) l => fitN Tryz.prog (d + 1) f.type l) [_, _, _] l := h
  cases h3 with
  | cons a1 h4 =>
    cases h4 with
    | cons a2 h5 =>
      cases h5 with
      | cons a3 h6 =>
        cases h6
        obtain ⟨x, rfl, w1⟩ := fit_str (d := d) a1 rfl
        obtain ⟨y, rfl, w2⟩ := fit_int (d := d) a2 rfl
        obtain ⟨z, rfl⟩ := fit_bool (d := d) a3 rfl
        exact ⟨⟨x, y, z⟩, rfl, by unfold reachBytes at w1; simp only; omega⟩
set_option maxRecDepth 100000 in
theorem fit_by {d : Nat} {l : List Cell} (h : fitN Tryz.prog (d + 2) 160 l) : ∃ c : By, l = cs false [c] ∧ True := by
  obtain ⟨fs, hu⟩ : ∃ fs, Tryz.prog.underlying 160 = some (.struct fs) := ⟨_, rfl⟩
  have h3 : Each (fun (f : Field) l => fitN Tryz.prog (d + 1) f.type l) [_, _] l := h
  cases h3 with
  | cons a1 h4 =>
    cases h4 with
    | cons a2 h5 =>
      cases h5
      obtain ⟨x, rfl, w1⟩ := fit_int (d := d) a1 rfl
      obtain ⟨y, rfl⟩ := fit_bool (d := d) a2 rfl
      exact ⟨⟨x, y⟩, rfl, trivial⟩
set_option maxRecDepth 100000 in
theorem fit_ix {d : Nat} {l : List Cell} (h : fitN Tryz.prog (d + 4) 146 l) : ∃ c : Ix, l = cs false [c] ∧ BdIx c := by
  obtain ⟨fs, hu⟩ : ∃ fs, Tryz.prog.underlying 146 = some (.struct fs) := ⟨_, rfl⟩
  have h3 : Each (fun (f : Field) l => fitN Tryz.prog (d + 3) f.type l) [_, _, _] l := h
  cases h3 with
  | cons a1 h4 =>
    cases h4 with
    | cons a2 h5 =>
      cases h5 with
      | cons a3 h6 =>
        cases h6
        obtain ⟨x, rfl, w1⟩ := fit_str (d := d + 2) a1 rfl
        obtain ⟨y, rfl⟩ := fit_bool (d := d + 2) a2 rfl
        obtain ⟨z, rfl, w3, v3⟩ := fit_sl (d := d + 2) (α := By) (Q := fun _ => True) a3 rfl rfl (fun l hl => fit_by (d := d) hl)
        exact ⟨⟨x, y, z⟩, rfl, ⟨by unfold reachBytes at w1; simp only; omega, len_le w3 rfl⟩⟩
set_option maxRecDepth 100000 in
theorem fit_df {d : Nat} {l : List Cell} (h : fitN Tryz.prog (d + 6) 67 l) : ∃ c : Df, l = cs false [c] ∧ BdDf c := by
  obtain ⟨fs, hu⟩ : ∃ fs, Tryz.prog.underlying 67 = some (.struct fs) := ⟨_, rfl⟩
  have h3 : Each (fun (f : Field) l => fitN Tryz.prog (d + 5) f.type l) [_, _, _, _] l := h
  cases h3 with
  | cons a1 h4 =>
    cases h4 with
    | cons a2 h5 =>
      cases h5 with
      | cons a3 h6 =>
        cases h6 with
        | cons a4 h7 =>
          cases h7
          obtain ⟨x, rfl, w1⟩ := fit_str (d := d + 4) a1 rfl
          obtain ⟨y, rfl, w2, v2⟩ := fit_sl (d := d + 4) (α := Cl) (Q := fun c => c.name.size ≤ 1000000000000000) a2 rfl rfl (fun l hl => fit_col (d := d + 2) hl)
          obtain ⟨z, rfl, w3, v3⟩ := fit_sl (d := d + 4) (α := By) (Q := fun _ => True) a3 rfl rfl (fun l hl => fit_by (d := d + 2) hl)
          obtain ⟨u, rfl, w4, v4⟩ := fit_sl (d := d + 4) (α := Ix) (Q := BdIx) a4 rfl rfl (fun l hl => fit_ix (d := d) hl)
          exact ⟨⟨x, y, z, u⟩, rfl, ⟨by unfold reachBytes at w1; simp only; omega, len_le w2 rfl, v2, len_le w3 rfl, len_le w4 rfl, v4⟩⟩
set_option maxRecDepth 100000 in
theorem fit_sch {d : Nat} {t : TypeId} {l : List Cell} (h : fitN Tryz.prog (d + 7) t l) (hu : Tryz.prog.underlying t = some (.slice 67)) : ∃ s : List Df, l = [slE false s] ∧ BdSc s := by
  obtain ⟨u, rfl, w4, v4⟩ := fit_sl (d := d + 6) (α := Df) (Q := BdDf) h hu rfl (fun l hl => fit_df (d := d) hl)
  exact ⟨u, rfl, ⟨len_le w4 rfl, v4⟩⟩

set_option maxRecDepth 100000 in
theorem fit_val {d : Nat} {l : List Cell} (h : fitN Tryz.prog (d + 2) 126 l) : ∃ c : Vl, l = cs false [c] ∧ c.s.size ≤ 1000000000000000 := by
  obtain ⟨fs, hu⟩ : ∃ fs, Tryz.prog.underlying 126 = some (.struct fs) := ⟨_, rfl⟩
  have h3 : Each (fun (f : Field) l => fitN Tryz.prog (d + 1) f.type l) [_, _, _] l := h
  cases h3 with
  | cons a1 h4 =>
    cases h4 with
    | cons a2 h5 =>
      cases h5 with
      | cons a3 h6 =>
        cases h6
        obtain ⟨x, rfl, w1⟩ := fit_int (d := d) a1 rfl
        obtain ⟨y, rfl, w2⟩ := fit_int (d := d) a2 rfl
        obtain ⟨z, rfl, w3⟩ := fit_str (d := d) a3 rfl
        exact ⟨⟨x, y, z⟩, rfl, by unfold reachBytes at w3; simp only; omega⟩
set_option maxRecDepth 100000 in
theorem fit_row1 {d : Nat} {t : TypeId} {l : List Cell} (h : fitN Tryz.prog (d + 3) t l) (hu : Tryz.prog.underlying t = some (.slice 126)) : ∃ r : List Vl, l = cs false [r] ∧ BdRow r := by
  obtain ⟨u, rfl, w4, v4⟩ := fit_sl (d := d + 2) (α := Vl) (Q := fun v => v.s.size ≤ 1000000000000000) h hu rfl (fun l hl => fit_val (d := d) hl)
  exact ⟨u, rfl, ⟨len_le w4 rfl, v4⟩⟩

set_option maxRecDepth 100000 in
theorem fit_mtab {d : Nat} {l : List Cell} (h : fitN Tryz.prog (d + 5) 106 l) : ∃ r : List (List Vl), l = cs false [r] ∧ BdTb r := by
  obtain ⟨fs, hu⟩ : ∃ fs, Tryz.prog.underlying 106 = some (.struct fs) := ⟨_, rfl⟩
  have h3 : Each (fun (f : Field) l => fitN Tryz.prog (d + 4) f.type l) [_] l := h
  cases h3 with
  | cons a1 h4 =>
    cases h4
    obtain ⟨u, rfl, w4, v4⟩ := fit_sl (d := d + 3) (α := List Vl) (Q := BdRow) a1 rfl rfl (fun l hl => fit_row1 (d := d) hl rfl)
    exact ⟨u, rfl, ⟨len_le w4 rfl, v4⟩⟩
set_option maxRecDepth 100000 in
theorem fit_mdb {d : Nat} {l : List Cell} (h : fitN Tryz.prog (d + 7) 25 l) : ∃ m : List (List (List Vl)), l = [slE false m] ∧ BdMdb m := by
  obtain ⟨fs, hu⟩ : ∃ fs, Tryz.prog.underlying 25 = some (.struct fs) := ⟨_, rfl⟩
  have h3 : Each (fun (f : Field) l => fitN Tryz.prog (d + 6) f.type l) [_] l := h
  cases h3 with
  | cons a1 h4 =>
    cases h4
    obtain ⟨u, rfl, w4, v4⟩ := fit_sl (d := d + 5) (α := List (List Vl)) (Q := BdTb) a1 rfl rfl (fun l hl => fit_mtab (d := d) hl)
    exact ⟨u, rfl, ⟨len_le w4 rfl, v4⟩⟩

end Go.Proofs.YtopnaijeicknoaaGreatDoor
