/- Proved: for every input the law FnExactFormat returns true, and its arguments read behind the call as they read before. No further condition. -/
import Derived.Test.YtacfohamlkbpjaaWc
import Derived.Test.YtacfohamlkbpjaaRa
import Derived.Test.YtacfohamlkbpjaaRows
import Derived.ProofKit
namespace Go.Proofs.Ytacfohamlkbpjaa
open Go Go.RowKit Go.IntWalk
open Enc (sz cs)

theorem own0 : ownKnob Try.prog.godebug = none := by kernel_rfl
theorem laid0 : laidOutB Try.prog = true := by kernel_rfl

set_option maxRecDepth 100000 in
theorem comes {a : List Arg} (h : FitAll Try.prog 9 Try.f7.params.toList a) : ∃ outs, T 7 a [vB true] outs := by
  cases h with
  | cons h1 h2 =>
    cases h2 with
    | cons h2 h3 =>
      cases h3
      obtain ⟨n, rfl, _⟩ := fit_int (d := 8) h1 rfl
      obtain ⟨l, rfl, hl, _⟩ := fit_sl (d := 8) (α := Fau) (Q := fun _ => True) h2 rfl rfl (fun l hl => fit_fau (d := 6) hl)
      exact ⟨_, t_laws_FnExactFormat (hl := len_le hl rfl)⟩

set_option maxRecDepth 100000 in
theorem lifted (os : Os) (started : os.Started) (H : Type) (enc : TypeId × Value → H) :
    ReturnsInHanded {} Try.checked os 7 .any (Rows.fnExactFormatSpec.pre6 enc Try.prog Try.f7 [] false) (Rows.fnExactFormatSpec.post enc Try.prog Try.f7 false true false false) :=
  law_row (C := Try.checked) (d := 9) (rt := 4) own0 started (by kernel_rfl) Try.func7
    (ChangeSpec.witness6 (enc := enc) (C := Try.checked) false ⟨#[], #[.int .i64 0, .slice none 0 0], []⟩ 8 (by kernel_rfl) (by kernel_rfl) (by kernel_rfl) (by kernel_rfl)) laid0 rfl
    (by decide +kernel) (by kernel_rfl) rfl (by kernel_rfl)
    (fun ds hl => by
      match ds, hl with
      | [d0, d1], _ => rfl)
    (fun a ha => by
      obtain ⟨outs, h⟩ := comes ha
      exact ⟨outs, sound (by kernel_rfl) (fun _ _ _ _ h => h.elim) h⟩)

theorem x_holds : Rows.FnExactFormatSaid :=
  OpenClaim.holds_of_wide 7 Try.f7 rfl rfl rfl rfl rfl rfl rfl ⟨rfl, rfl, rfl, rfl, rfl⟩ rfl rfl rfl rfl rfl (by kernel_rfl) Try.func7 (by kernel_rfl)
    (of_decide_eq_true (by kernel_rfl)) (by unfold Func.isWrapper; first | (rw [if_pos (by decide +kernel)]; kernel_rfl) | (rw [if_neg (by decide +kernel)]; exact ⟨rfl, rfl⟩))
    (fun os started H enc _ => lifted os started H enc)

#print axioms x_holds
end Go.Proofs.Ytacfohamlkbpjaa
