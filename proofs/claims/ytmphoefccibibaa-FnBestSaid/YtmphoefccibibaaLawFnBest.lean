/- Proved: for every input the law FnBest returns true, and its arguments read behind the call as they read before. No further condition. -/
import Derived.Test.YtmphoefccibibaaWm
import Derived.Test.YtmphoefccibibaaRa
import Derived.Test.YtmphoefccibibaaRows
import Derived.ProofKit
namespace Go.Proofs.Ytmphoefccibibaa
open Go Go.RowKit Go.IntWalk
open Enc (sz cs)

theorem own0 : ownKnob Try.prog.godebug = none := by kernel_rfl
theorem laid0 : laidOutB Try.prog = true := by kernel_rfl

set_option maxRecDepth 100000 in
theorem comes {a : List Arg} (h : FitAll Try.prog 9 Try.f3.params.toList a) : ∃ outs, T 3 a [vB true] outs := by
  cases h with
  | cons h1 h2 =>
    cases h2
    obtain ⟨b, rfl, hb⟩ := fit_bytes (d := 7) h1 rfl rfl rfl rfl
    exact ⟨_, tx3 (hb := by unfold reachBytes at hb; omega)⟩

set_option maxRecDepth 100000 in
theorem lifted (os : Os) (started : os.Started) (H : Type) (enc : TypeId × Value → H) :
    ReturnsInHanded {} Try.checked os 3 .any (Rows.fnBestSpec.pre6 enc Try.prog Try.f3 [] false) (Rows.fnBestSpec.post enc Try.prog Try.f3 false true false false) :=
  law_row (C := Try.checked) (d := 9) (rt := 4) own0 started (by kernel_rfl) Try.func3
    (ChangeSpec.witness6 (enc := enc) (C := Try.checked) false ⟨#[], #[.slice none 0 0], []⟩ 8 (by kernel_rfl) (by kernel_rfl) (by kernel_rfl) (by kernel_rfl)) laid0 rfl
    (by decide +kernel) (by kernel_rfl) rfl (by kernel_rfl)
    (fun ds hl => by
      match ds, hl with
      | [d0], _ => rfl)
    (fun a ha => by
      obtain ⟨outs, h⟩ := comes ha
      exact ⟨outs, sound (by kernel_rfl) X0_ok h⟩)

theorem x_holds : Rows.FnBestSaid :=
  OpenClaim.holds_of_wide 3 Try.f3 rfl rfl rfl rfl rfl rfl rfl ⟨rfl, rfl, rfl, rfl, rfl⟩ rfl rfl rfl rfl rfl (by kernel_rfl) Try.func3 (by kernel_rfl)
    (of_decide_eq_true (by kernel_rfl)) (by unfold Func.isWrapper; first | (rw [if_pos (by decide +kernel)]; kernel_rfl) | (rw [if_neg (by decide +kernel)]; exact ⟨rfl, rfl⟩))
    (fun os started H enc _ => lifted os started H enc)

#print axioms x_holds
end Go.Proofs.Ytmphoefccibibaa
