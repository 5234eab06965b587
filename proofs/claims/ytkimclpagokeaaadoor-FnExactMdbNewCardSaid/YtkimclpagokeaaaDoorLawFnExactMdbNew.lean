/- Proved: for every input the law FnExactMdbNew returns true, and its arguments read behind the call as they read before. The package variables of the library that the row lists hold what the card ties to the text. -/
import Derived.Test.YtkimclpagokeaaaDoorWn
import Derived.Test.YtkimclpagokeaaaDoorRb
import Derived.Test.YtkimclpagokeaaaDoorXa
import Derived.Test.YtkimclpagokeaaaDoorRows
import Derived.Test.YtkimclpagokeaaaDoorCards
import Derived.Test.YtkimclpagokeaaaDoorTie
import Derived.ProofKit
import Derived.LaidMore
import Derived.Lay
import Derived.SevenTiedAt
import Derived.Stop.Joined
namespace Go.Proofs.YtkimclpagokeaaaDoor
open Go Go.RowKit Go.IntWalk
open Enc (sz cs)

theorem own0 : ownKnob Tryd.prog.godebug = none := by kernel_rfl
theorem laid0 : laidOutB Tryd.prog = true := by kernel_rfl

set_option maxRecDepth 100000 in
theorem comes {a : List Arg} (h : FitAll Tryd.prog 9 Tryd.f3.params.toList a) : ∃ outs, T 3 a [vB true] outs := by
  cases h with
  | cons h1 h2 =>
    cases h2
    obtain ⟨s, rfl, hs⟩ := fit_sch (d := 2) h1 rfl
    exact ⟨_, tx3⟩

set_option maxRecDepth 100000 in
theorem lifted (os : Os) (started : os.Started) (H : Type) (enc : TypeId × Value → H) :
    ReturnsInHanded {} Tryd.checked os 3 .any (fun w args => (Rows.fnExactMdbNewSpec.pre enc Tryd.prog Tryd.f3 [] false w args ∧ laidMetH Tryd.prog Rows.fnExactMdbNewRow.laid w) ∧ sizedMet enc Tryd.prog Tryd.f3 (OpenSpec.ofChange Rows.fnExactMdbNewSpec) false w args)
      (Rows.fnExactMdbNewSpec.post enc Tryd.prog Tryd.f3 false true false false) :=
  law_rowL (X := fun w _ => laidMetH Tryd.prog Rows.fnExactMdbNewRow.laid w) (C := Tryd.checked) (d := 9) (rt := 4) own0 started (by kernel_rfl) Tryd.func3
    (ChangeSpec.witness_shaped (enc := enc) (C := Tryd.checked) (os := os) (X := fun w _ => laidMetH Tryd.prog Rows.fnExactMdbNewRow.laid w) false (World.laidAll Tryd.prog os Rows.fnExactMdbNewRow.laid) #[.slice none 0 0] 8 (World.laidAll_os _ _ _)
      (World.shaped_of_ZipB (by kernel_rfl) (by kernel_rfl)) (by kernel_rfl) (by kernel_rfl) (by kernel_rfl)
      (by rw [MakeChecks.laidMetH_plain _ _ _ (by kernel_rfl)]; exact laidMet_laidAll _ (by kernel_rfl) (by kernel_rfl))) laid0 rfl
    (by decide +kernel) (by kernel_rfl) rfl (by kernel_rfl)
    (fun ds hl => by
      match ds, hl with
      | [d0], _ => rfl)
    X0_gv
    (fun a ha => by
      obtain ⟨outs, h⟩ := comes ha
      exact ⟨outs, sound (by kernel_rfl) X0_ok h⟩)

theorem x_said : Rows.FnExactMdbNewSaid :=
  OpenClaim.holds_of_wide 3 Tryd.f3 rfl rfl rfl rfl rfl rfl rfl ⟨rfl, rfl, rfl, rfl, rfl⟩ rfl rfl rfl rfl rfl (by kernel_rfl) Tryd.func3 (by kernel_rfl)
    (of_decide_eq_true (by kernel_rfl)) (by unfold Func.isWrapper; first | (rw [if_pos (by decide +kernel)]; kernel_rfl) | (rw [if_neg (by decide +kernel)]; exact ⟨rfl, rfl⟩))
    (fun os started H enc _ => lifted os started H enc)

theorem x_holds : Rows.FnExactMdbNewCardSaid :=
  Claim7.holds_tied_plain_at .later [] [.data, .pinned] true (true, "f02500582f38c12c7def4e43fe0931f58c1a2652f87093f1f8ee72051dd34c1b") false x_said (fun _ h => by cases h) (by kernel_rfl) (fun _ h => by cases h) fnExactMdbNew_row_tie rfl ⟨rfl, rfl⟩ (by kernel_rfl) rfl
    (fun f fn hf hfn => by
      obtain rfl : f = 3 := Option.some.inj ((show Tryd.prog.funcNamed "loop.example/g00322/laws.FnExactMdbNew" = some 3 by kernel_rfl).symm.trans hf) |>.symm
      obtain rfl : fn = Tryd.f3 := (Option.some.inj (Tryd.func3.symm.trans hfn)).symm
      exact ⟨by kernel_rfl, fun j t ht => by
        have hm : t ∈ Tryd.f3.params.toList := by simpa using Array.mem_of_getElem? ht
        have hall : (Tryd.f3.params.toList.all fun u => !Tryd.prog.wantsStandIn u) = true := by kernel_rfl
        exact (show Tryd.prog.wantsStandIn t = false by simpa using List.all_eq_true.1 hall t hm)⟩)
    (by kernel_rfl)

#print axioms x_holds
end Go.Proofs.YtkimclpagokeaaaDoor
