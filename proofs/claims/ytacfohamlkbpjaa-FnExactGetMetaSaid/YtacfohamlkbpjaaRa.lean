/- Functions of the program, each with what it gives back. -/
import Derived.Test.YtacfohamlkbpjaaVf
import Derived.Test.YtacfohamlkbpjaaChecked
import Derived.IntWalk
import Derived.Test.YtacfohamlkbpjaaFa
namespace Go.Proofs.Ytacfohamlkbpjaa
open Go Go.RowKit Go.IntWalk
open Enc (sz cs)

set_option maxRecDepth 100000 in
theorem fit_met {d : Nat} {l : List Cell} (h : fitN Try.prog (d + 2) 23 l) : ∃ m : Met, l = metC m ∧ (Lit.int .i64 m.gen).wf = true ∧ (Lit.int .i64 m.root).wf = true := by
  obtain ⟨fs, hu⟩ : ∃ fs, Try.prog.underlying 23 = some (.struct fs) := ⟨_, rfl⟩
  have h3 : Each (fun (f : Field) l => fitN Try.prog (d + 1) f.type l) [_, _] l := h
  cases h3 with
  | cons a1 h4 =>
    cases h4 with
    | cons a2 h5 =>
      cases h5
      obtain ⟨g, rfl, w1⟩ := fit_int (d := d) a1 rfl
      obtain ⟨r, rfl, w2⟩ := fit_int (d := d) a2 rfl
      exact ⟨⟨g, r⟩, rfl, w1, w2⟩

end Go.Proofs.Ytacfohamlkbpjaa
