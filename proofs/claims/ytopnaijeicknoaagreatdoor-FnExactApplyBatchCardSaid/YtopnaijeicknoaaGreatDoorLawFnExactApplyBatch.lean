/- Proved: for every input the law FnExactApplyBatch returns true, and its arguments read behind the call as they read before. The package variables of the library that the row lists hold what the card ties to the text. -/
import Derived.Test.YtopnaijeicknoaaGreatDoorWr
import Derived.Test.YtopnaijeicknoaaGreatDoorRc
import Derived.Test.YtopnaijeicknoaaGreatDoorXa
import Derived.Test.YtopnaijeicknoaaGreatDoorRows
import Derived.Test.YtopnaijeicknoaaGreatDoorCards
import Derived.Test.YtopnaijeicknoaaGreatDoorTie
import Derived.ProofKit
import Derived.LaidMore
import Derived.Lay
import Derived.SevenTiedAt
import Derived.Stop.Joined
namespace Go.Proofs.YtopnaijeicknoaaGreatDoor
open Go Go.RowKit Go.IntWalk
open Enc (sz cs)

theorem own0 : ownKnob Tryz.prog.godebug = none := by kernel_rfl
theorem laid0 : laidOutB Tryz.prog = true := by kernel_rfl

set_option maxRecDepth 100000 in
theorem comes {a : List Arg} (h : FitAll Tryz.prog 9 Tryz.f5.params.toList a) : ∃ outs, T 5 a [vB true] outs := by
  cases h with
  | cons h1 h2 =>
    cases h2 with
    | cons h3 h4 =>
      cases h4 with
      | cons h5 h6 =>
        cases h6
        obtain ⟨s, rfl, hs⟩ := fit_sch (d := 2) h1 rfl
        obtain ⟨m, rfl, hm⟩ := fit_mdb (d := 2) h3
        obtain ⟨l, rfl, hl, hel⟩ := fit_ops (d := 4) h5 rfl
        exact ⟨_, tx5⟩

set_option maxRecDepth 100000 in
theorem lifted (os : Os) (started : os.Started) (H : Type) (enc : TypeId × Value → H) :
    ReturnsInHanded {} Tryz.checked os 5 .any (fun w args => (Rows.fnExactApplyBatchSpec.pre enc Tryz.prog Tryz.f5 [] false w args ∧ laidMetH Tryz.prog Rows.fnExactApplyBatchRow.laid w) ∧ sizedMet enc Tryz.prog Tryz.f5 (OpenSpec.ofChange Rows.fnExactApplyBatchSpec) false w args)
      (Rows.fnExactApplyBatchSpec.post enc Tryz.prog Tryz.f5 false true false false) :=
  law_rowL (X := fun w _ => laidMetH Tryz.prog Rows.fnExactApplyBatchRow.laid w) (C := Tryz.checked) (d := 9) (rt := 4) own0 started (by kernel_rfl) Tryz.func5
    (ChangeSpec.witness_shaped (enc := enc) (C := Tryz.checked) (os := os) (X := fun w _ => laidMetH Tryz.prog Rows.fnExactApplyBatchRow.laid w) false (World.laidAll Tryz.prog os Rows.fnExactApplyBatchRow.laid) #[.slice none 0 0, .agg #[.slice none 0 0], .slice none 0 0] 8 (World.laidAll_os _ _ _)
      (World.shaped_of_ZipB (by kernel_rfl) (by kernel_rfl)) (by kernel_rfl) (by kernel_rfl) (by kernel_rfl)
      (by rw [MakeChecks.laidMetH_plain _ _ _ (by kernel_rfl)]; exact laidMet_laidAll _ (by kernel_rfl) (by kernel_rfl))) laid0 rfl
    (by decide +kernel) (by kernel_rfl) rfl (by kernel_rfl)
    (fun ds hl => by
      match ds, hl with
      | [d0, d1, d2], _ => rfl)
    X0_gv
    (fun a ha => by
      obtain ⟨outs, h⟩ := comes ha
      exact ⟨outs, sound (by kernel_rfl) X0_ok h⟩)

theorem x_said : Rows.FnExactApplyBatchSaid :=
  OpenClaim.holds_of_wide 5 Tryz.f5 rfl rfl rfl rfl rfl rfl rfl ⟨rfl, rfl, rfl, rfl, rfl⟩ rfl rfl rfl rfl rfl (by kernel_rfl) Tryz.func5 (by kernel_rfl)
    (of_decide_eq_true (by kernel_rfl)) (by unfold Func.isWrapper; first | (rw [if_pos (by decide +kernel)]; kernel_rfl) | (rw [if_neg (by decide +kernel)]; exact ⟨rfl, rfl⟩))
    (fun os started H enc _ => lifted os started H enc)

theorem x_holds : Rows.FnExactApplyBatchCardSaid :=
  Claim7.holds_tied_plain_at .later [] [.data, .pinned] true (true, "31bfd86f1325c72602845e47de8e6e4d2008001454e93e8f3dbb9dc1f1561ebf") false x_said (fun _ h => by cases h) (by kernel_rfl) (fun _ h => by cases h) fnExactApplyBatch_row_tie rfl ⟨rfl, rfl⟩ (by kernel_rfl) rfl
    (fun f fn hf hfn => by
      obtain rfl : f = 5 := Option.some.inj ((show Tryz.prog.funcNamed "loop.example/g00322/laws.FnExactApplyBatch" = some 5 by kernel_rfl).symm.trans hf) |>.symm
      obtain rfl : fn = Tryz.f5 := (Option.some.inj (Tryz.func5.symm.trans hfn)).symm
      exact ⟨by kernel_rfl, fun j t ht => by
        have hm : t ∈ Tryz.f5.params.toList := by simpa using Array.mem_of_getElem? ht
        have hall : (Tryz.f5.params.toList.all fun u => !Tryz.prog.wantsStandIn u) = true := by kernel_rfl
        exact (show Tryz.prog.wantsStandIn t = false by simpa using List.all_eq_true.1 hall t hm)⟩)
    (by kernel_rfl)

#print axioms x_holds
end Go.Proofs.YtopnaijeicknoaaGreatDoor
