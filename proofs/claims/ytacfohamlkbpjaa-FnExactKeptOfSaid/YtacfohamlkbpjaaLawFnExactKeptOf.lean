/- Proved: for every input the law FnExactKeptOf returns true, and its arguments read behind the call as they read before. No further condition. -/
import Derived.Test.YtacfohamlkbpjaaWf
import Derived.Test.YtacfohamlkbpjaaRa
import Derived.Test.YtacfohamlkbpjaaRows
import Derived.ProofKit
namespace Go.Proofs.Ytacfohamlkbpjaa
open Go Go.RowKit Go.IntWalk
open Enc (sz cs)

theorem own0 : ownKnob Try.prog.godebug = none := by kernel_rfl
theorem laid0 : laidOutB Try.prog = true := by kernel_rfl

set_option maxRecDepth 100000 in
theorem comes {a : List Arg} (h : FitAll Try.prog 9 Try.f13.params.toList a) : ∃ outs, T 13 a [vB true] outs := by
  cases h with
  | cons h1 h2 =>
    cases h2
    obtain ⟨d, rfl, hd⟩ := fit_dsk (d := 4) h1
    exact ⟨_, tx13⟩

set_option maxRecDepth 100000 in
theorem lifted (os : Os) (started : os.Started) (H : Type) (enc : TypeId × Value → H) :
    ReturnsInHanded {} Try.checked os 13 .any (Rows.fnExactKeptOfSpec.pre6 enc Try.prog Try.f13 [] false) (Rows.fnExactKeptOfSpec.post enc Try.prog Try.f13 false true false false) :=
  law_row (C := Try.checked) (d := 9) (rt := 4) own0 started (by kernel_rfl) Try.func13
    (ChangeSpec.witness6 (enc := enc) (C := Try.checked) false ⟨#[], #[.agg #[.slice none 0 0, .slice none 0 0, .int .i64 0, .slice none 0 0, .bool false]], []⟩ 8 (by kernel_rfl) (by kernel_rfl) (by kernel_rfl) (by kernel_rfl)) laid0 rfl
    (by decide +kernel) (by kernel_rfl) rfl (by kernel_rfl)
    (fun ds hl => by
      match ds, hl with
      | [d0], _ => rfl)
    (fun a ha => by
      obtain ⟨outs, h⟩ := comes ha
      exact ⟨outs, sound (by kernel_rfl) (fun _ _ _ _ h => h.elim) h⟩)

theorem x_holds : Rows.FnExactKeptOfSaid :=
  OpenClaim.holds_of_wide 13 Try.f13 rfl rfl rfl rfl rfl rfl rfl ⟨rfl, rfl, rfl, rfl, rfl⟩ rfl rfl rfl rfl rfl (by kernel_rfl) Try.func13 (by kernel_rfl)
    (of_decide_eq_true (by kernel_rfl)) (by unfold Func.isWrapper; first | (rw [if_pos (by decide +kernel)]; kernel_rfl) | (rw [if_neg (by decide +kernel)]; exact ⟨rfl, rfl⟩))
    (fun os started H enc _ => lifted os started H enc)

#print axioms x_holds
end Go.Proofs.Ytacfohamlkbpjaa
