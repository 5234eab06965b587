/- Proved: for every input the law FnExactCommit returns true, and its arguments read behind the call as they read before. No further condition. -/
import Derived.Test.YtkggnekdjdnhiaaGreatWk
import Derived.Test.YtkggnekdjdnhiaaGreatRa
import Derived.Test.YtkggnekdjdnhiaaGreatXa
import Derived.Test.YtkggnekdjdnhiaaGreatRows
import Derived.ProofKit
namespace Go.Proofs.YtkggnekdjdnhiaaGreat
open Go Go.RowKit Go.IntWalk
open Enc (sz cs)

theorem own0 : ownKnob Tryz.prog.godebug = none := by kernel_rfl
theorem laid0 : laidOutB Tryz.prog = true := by kernel_rfl

set_option maxRecDepth 100000 in
theorem comes {a : List Arg} (h : FitAll Tryz.prog 9 Tryz.f6.params.toList a) : ∃ outs, T 6 a [vB true] outs := by
  cases h with
  | cons h1 h2 =>
    cases h2
    obtain ⟨t, rfl, ht⟩ := fit_txn (d := 3) h1
    exact ⟨_, tx6⟩

set_option maxRecDepth 100000 in
theorem lifted (os : Os) (started : os.Started) (H : Type) (enc : TypeId × Value → H) :
    ReturnsInHanded {} Tryz.checked os 6 .any (Rows.fnExactCommitSpec.pre6 enc Tryz.prog Tryz.f6 [] false) (Rows.fnExactCommitSpec.post enc Tryz.prog Tryz.f6 false true false false) :=
  law_row (C := Tryz.checked) (d := 9) (rt := 4) own0 started (by kernel_rfl) Tryz.func6
    (ChangeSpec.witness6 (enc := enc) (C := Tryz.checked) false ⟨#[], #[.agg #[.slice none 0 0, .slice none 0 0, .int .i64 0, .slice none 0 0, .bool false, .int .i64 0, .int .i64 0, .int .i64 0, .slice none 0 0]], []⟩ 8 (by kernel_rfl) (by kernel_rfl) (by kernel_rfl) (by kernel_rfl)) laid0 rfl
    (by decide +kernel) (by kernel_rfl) rfl (by kernel_rfl)
    (fun ds hl => by
      match ds, hl with
      | [d0], _ => rfl)
    (fun a ha => by
      obtain ⟨outs, h⟩ := comes ha
      exact ⟨outs, sound (by kernel_rfl) X0_ok h⟩)

theorem x_holds : Rows.FnExactCommitSaid :=
  OpenClaim.holds_of_wide 6 Tryz.f6 rfl rfl rfl rfl rfl rfl rfl ⟨rfl, rfl, rfl, rfl, rfl⟩ rfl rfl rfl rfl rfl (by kernel_rfl) Tryz.func6 (by kernel_rfl)
    (of_decide_eq_true (by kernel_rfl)) (by unfold Func.isWrapper; first | (rw [if_pos (by decide +kernel)]; kernel_rfl) | (rw [if_neg (by decide +kernel)]; exact ⟨rfl, rfl⟩))
    (fun os started H enc _ => lifted os started H enc)

#print axioms x_holds
end Go.Proofs.YtkggnekdjdnhiaaGreat
