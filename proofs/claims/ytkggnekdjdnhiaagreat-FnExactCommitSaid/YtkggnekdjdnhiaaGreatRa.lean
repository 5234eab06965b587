/- Functions of the program, each with what it gives back. -/
import Derived.Test.YtkggnekdjdnhiaaGreatKe
import Derived.Test.YtkggnekdjdnhiaaGreatChecked
import Derived.IntWalk
import Derived.Test.YtkggnekdjdnhiaaGreatFa
namespace Go.Proofs.YtkggnekdjdnhiaaGreat
open Go Go.RowKit Go.IntWalk
open Enc (sz cs)
attribute [local irreducible] IntKind.wrap

set_option maxRecDepth 100000 in
theorem fit_met {d : Nat} {l : List Cell} (h : fitN Tryz.prog (d + 2) 28 l) : ∃ m : Met, l = metC m ∧ (Lit.int .i64 m.gen).wf = true ∧ (Lit.int .i64 m.root).wf = true := by
  obtain ⟨fs, hu⟩ : ∃ fs, Tryz.prog.underlying 28 = some (.struct fs) := ⟨_, rfl⟩
  have h3 : Each (fun (f : Field) l => fitN Tryz.prog (d + 1) f.type l) [_, _] l := h
  cases h3 with
  | cons a1 h4 =>
    cases h4 with
    | cons a2 h5 =>
      cases h5
      obtain ⟨g, rfl, w1⟩ := fit_int (d := d) a1 rfl
      obtain ⟨r, rfl, w2⟩ := fit_int (d := d) a2 rfl
      exact ⟨⟨g, r⟩, rfl, w1, w2⟩

theorem fit_bytes1 {P : Program} {d : Nat} {t e : TypeId} {l : List Cell} (h : fitN P (d + 2) t l) (hu : P.underlying t = some (.slice e)) (he : P.underlying e = some (.int .u8)) (hc : P.cellsOf e = 1) (hb : P.bytesOf e = 1) : ∃ b : List UInt8, l = cs false [b] ∧ b.length ≤ 1000000000000000 := by
  obtain ⟨b, h1, h2⟩ := fit_bytes h hu he hc hb
  exact ⟨b, h1, by unfold reachBytes at h2; omega⟩
theorem fit_str1 {P : Program} {d : Nat} {t : TypeId} {l : List Cell} (h : fitN P (d + 1) t l) (hu : P.underlying t = some .string) : ∃ s : ByteArray, l = cs false [s] ∧ s.size ≤ 1000000000000000 := by
  obtain ⟨b, h1, h2⟩ := fit_str h hu
  exact ⟨b, h1, by unfold reachBytes at h2; omega⟩
set_option maxRecDepth 100000 in
theorem fit_fau {d : Nat} {l : List Cell} (h : fitN Tryz.prog (d + 2) 153 l) : ∃ f : Fau, l = cs false [f] ∧ True := by
  obtain ⟨fs, hu⟩ : ∃ fs, Tryz.prog.underlying 153 = some (.struct fs) := ⟨_, rfl⟩
  have h3 : Each (fun (f : Field) l => fitN Tryz.prog (d + 1) f.type l) [_, _, _] l := h
  cases h3 with
  | cons a1 h4 =>
    cases h4 with
    | cons a2 h5 =>
      cases h5 with
      | cons a3 h6 =>
        cases h6
        obtain ⟨x, rfl, w1⟩ := fit_int (d := d) a1 rfl
        obtain ⟨y, rfl, w2⟩ := fit_int (d := d) a2 rfl
        obtain ⟨z, rfl, w3⟩ := fit_int (d := d) a3 rfl
        exact ⟨⟨x, y, z⟩, rfl, trivial⟩
set_option maxRecDepth 100000 in
theorem fit_wri {d : Nat} {l : List Cell} (h : fitN Tryz.prog (d + 3) 149 l) : ∃ w : Wri, l = cs false [w] ∧ w.b.length ≤ 1000000000000000 := by
  obtain ⟨fs, hu⟩ : ∃ fs, Tryz.prog.underlying 149 = some (.struct fs) := ⟨_, rfl⟩
  have h3 : Each (fun (f : Field) l => fitN Tryz.prog (d + 2) f.type l) [_, _] l := h
  cases h3 with
  | cons a1 h4 =>
    cases h4 with
    | cons a2 h5 =>
      cases h5
      obtain ⟨x, rfl, w1⟩ := fit_int (d := d + 1) a1 rfl
      obtain ⟨y, rfl, w2⟩ := fit_bytes1 (d := d) a2 rfl rfl rfl rfl
      exact ⟨⟨x, y⟩, rfl, w2⟩
set_option maxRecDepth 100000 in
theorem fit_dsk {d : Nat} {l : List Cell} (h : fitN Tryz.prog (d + 5) 26 l) : ∃ x : Dsk, l = dskC false x ∧ BdD x := by
  obtain ⟨fs, hu⟩ : ∃ fs, Tryz.prog.underlying 26 = some (.struct fs) := ⟨_, rfl⟩
  have h3 : Each (fun (f : Field) l => fitN Tryz.prog (d + 4) f.type l) [_, _, _, _, _] l := h
  cases h3 with
  | cons a1 h4 =>
    cases h4 with
    | cons a2 h5 =>
      cases h5 with
      | cons a3 h6 =>
        cases h6 with
        | cons a4 h7 =>
          cases h7 with
          | cons a5 h8 =>
            cases h8
            obtain ⟨x1, rfl, w1, v1⟩ := fit_sl (d := d + 3) (α := List UInt8) (Q := fun b => b.length ≤ 1000000000000000) a1 rfl rfl (fun l hl => fit_bytes1 (d := d + 1) hl rfl rfl rfl rfl)
            obtain ⟨x2, rfl, w2, v2⟩ := fit_sl (d := d + 3) (α := Wri) (Q := fun w => w.b.length ≤ 1000000000000000) a2 rfl rfl (fun l hl => fit_wri (d := d) hl)
            obtain ⟨x3, rfl, w3⟩ := fit_int (d := d + 3) a3 rfl
            obtain ⟨x4, rfl, w4, v4⟩ := fit_sl (d := d + 3) (α := Fau) (Q := fun _ => True) a4 rfl rfl (fun l hl => fit_fau (d := d + 1) hl)
            obtain ⟨x5, rfl⟩ := fit_bool (d := d + 3) a5 rfl
            exact ⟨⟨x1, x2, x3, x4, x5⟩, rfl, ⟨len_le w1 rfl, v1, len_le w2 rfl, v2, len_le w4 rfl⟩⟩

set_option maxRecDepth 100000 in
theorem fit_nod {d : Nat} {l : List Cell} (h : fitN Tryz.prog (d + 3) 104 l) : ∃ x : Nod, l = nodC false x ∧ BdN x := by
  obtain ⟨fs, hu⟩ : ∃ fs, Tryz.prog.underlying 104 = some (.struct fs) := ⟨_, rfl⟩
  have h3 : Each (fun (f : Field) l => fitN Tryz.prog (d + 2) f.type l) [_, _, _, _] l := h
  cases h3 with
  | cons a1 h4 =>
    cases h4 with
    | cons a2 h5 =>
      cases h5 with
      | cons a3 h6 =>
        cases h6 with
        | cons a4 h7 =>
          cases h7
          obtain ⟨x1, rfl⟩ := fit_bool (d := d + 1) a1 rfl
          obtain ⟨x2, rfl, w2, v2⟩ := fit_sl (d := d + 1) (α := ByteArray) (Q := fun s => s.size ≤ 1000000000000000) a2 rfl rfl (fun l hl => fit_str1 (d := d) hl rfl)
          obtain ⟨x3, rfl, w3, v3⟩ := fit_sl (d := d + 1) (α := ByteArray) (Q := fun s => s.size ≤ 1000000000000000) a3 rfl rfl (fun l hl => fit_str1 (d := d) hl rfl)
          obtain ⟨x4, rfl, w4, v4⟩ := fit_sl (d := d + 1) (α := Int) (Q := fun n => (Lit.int .i64 n).wf = true) a4 rfl rfl (fun l hl => fit_int' (d := d) hl rfl)
          exact ⟨⟨x1, x2, x3, x4⟩, rfl, ⟨len_le w2 rfl, v2, len_le w3 rfl, v3, len_le w4 rfl⟩⟩
set_option maxRecDepth 100000 in
theorem fit_fre {d : Nat} {l : List Cell} (h : fitN Tryz.prog (d + 4) 106 l) : ∃ x : Fre, l = cs false [x] ∧ BdN x.x := by
  obtain ⟨fs, hu⟩ : ∃ fs, Tryz.prog.underlying 106 = some (.struct fs) := ⟨_, rfl⟩
  have h3 : Each (fun (f : Field) l => fitN Tryz.prog (d + 3) f.type l) [_, _] l := h
  cases h3 with
  | cons a1 h4 =>
    cases h4 with
    | cons a2 h5 =>
      cases h5
      obtain ⟨x, rfl, w1⟩ := fit_int (d := d + 2) a1 rfl
      obtain ⟨y, rfl, w2⟩ := fit_nod (d := d) a2
      exact ⟨⟨x, y⟩, rfl, w2⟩

set_option maxRecDepth 100000 in
theorem fit_txn {d : Nat} {l : List Cell} (h : fitN Tryz.prog (d + 6) 31 l) : ∃ x : Txn, l = txnC false x ∧ BdT x := by
  obtain ⟨fs, hu⟩ : ∃ fs, Tryz.prog.underlying 31 = some (.struct fs) := ⟨_, rfl⟩
  have h3 : Each (fun (f : Field) l => fitN Tryz.prog (d + 5) f.type l) [_, _, _, _] l := h
  cases h3 with
  | cons a1 h4 =>
    cases h4 with
    | cons a2 h5 =>
      cases h5 with
      | cons a3 h6 =>
        cases h6 with
        | cons a4 h7 =>
          cases h7
          obtain ⟨x1, rfl, w1⟩ := fit_dsk (d := d) a1
          obtain ⟨x2, rfl, _, _⟩ := fit_met (d := d + 3) a2
          obtain ⟨x3, rfl, w3⟩ := fit_int (d := d + 4) a3 rfl
          obtain ⟨x4, rfl, w4, v4⟩ := fit_sl (d := d + 4) (α := Fre) (Q := fun f => BdN f.x) a4 rfl rfl (fun l hl => fit_fre (d := d) hl)
          exact ⟨⟨x1, x2, x3, x4⟩, rfl, ⟨w1, len_le w4 rfl, v4⟩⟩

end Go.Proofs.YtkggnekdjdnhiaaGreat
