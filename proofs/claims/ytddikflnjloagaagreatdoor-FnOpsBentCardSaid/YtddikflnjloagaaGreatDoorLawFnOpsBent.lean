/- Proved: for every input the law FnOpsBent returns true, and its arguments read behind the call as they read before. The package variables of the library that the row lists hold what the card ties to the text. -/
import Derived.Test.YtddikflnjloagaaGreatDoorPn
import Derived.Test.YtddikflnjloagaaGreatDoorXa
import Derived.Test.YtddikflnjloagaaGreatDoorRows
import Derived.Test.YtddikflnjloagaaGreatDoorCards
import Derived.Test.YtddikflnjloagaaGreatDoorTie
import Derived.ProofKit
import Derived.LaidMore
import Derived.Lay
import Derived.SevenTiedAt
import Derived.Stop.Joined
namespace Go.Proofs.YtddikflnjloagaaGreatDoor
open Go Go.RowKit Go.IntWalk
open Enc (sz cs)

theorem own0 : ownKnob Tryz.prog.godebug = none := by kernel_rfl
theorem laid0 : laidOutB Tryz.prog = true := by kernel_rfl

set_option maxRecDepth 100000 in
theorem comes {a : List Arg} (h : FitAll Tryz.prog 9 Tryz.f6.params.toList a) : ∃ outs, T 6 a [vB true] outs := by
  cases h with
  | cons h1 h2 =>
    cases h2
    obtain ⟨b, rfl, hb⟩ := fit_bytes (d := 7) h1 rfl rfl rfl rfl
    exact ⟨_, tx6 (hb := by unfold reachBytes at hb; omega)⟩

set_option maxRecDepth 100000 in
theorem lifted (os : Os) (started : os.Started) (H : Type) (enc : TypeId × Value → H) :
    ReturnsInHanded {} Tryz.checked os 6 .any (fun w args => (Rows.fnOpsBentSpec.pre enc Tryz.prog Tryz.f6 [] false w args ∧ laidMetH Tryz.prog Rows.fnOpsBentRow.laid w) ∧ sizedMet enc Tryz.prog Tryz.f6 (OpenSpec.ofChange Rows.fnOpsBentSpec) false w args)
      (Rows.fnOpsBentSpec.post enc Tryz.prog Tryz.f6 false true false false) :=
  law_rowL (X := fun w _ => laidMetH Tryz.prog Rows.fnOpsBentRow.laid w) (C := Tryz.checked) (d := 9) (rt := 4) own0 started (by kernel_rfl) Tryz.func6
    (ChangeSpec.witness_shaped (enc := enc) (C := Tryz.checked) (os := os) (X := fun w _ => laidMetH Tryz.prog Rows.fnOpsBentRow.laid w) false (World.laidAll Tryz.prog os Rows.fnOpsBentRow.laid) #[.slice none 0 0] 8 (World.laidAll_os _ _ _)
      (World.shaped_of_ZipB (by kernel_rfl) (by kernel_rfl)) (by kernel_rfl) (by kernel_rfl) (by kernel_rfl)
      (by rw [MakeChecks.laidMetH_plain _ _ _ (by kernel_rfl)]; exact laidMet_laidAll _ (by kernel_rfl) (by kernel_rfl))) laid0 rfl
    (by decide +kernel) (by kernel_rfl) rfl (by kernel_rfl)
    (fun ds hl => by
      match ds, hl with
      | [d0], _ => rfl)
    X0_gv
    (fun a ha => by
      obtain ⟨outs, h⟩ := comes ha
      exact ⟨outs, sound (by kernel_rfl) X0_ok h⟩)

theorem x_said : Rows.FnOpsBentSaid :=
  OpenClaim.holds_of_wide 6 Tryz.f6 rfl rfl rfl rfl rfl rfl rfl ⟨rfl, rfl, rfl, rfl, rfl⟩ rfl rfl rfl rfl rfl (by kernel_rfl) Tryz.func6 (by kernel_rfl)
    (of_decide_eq_true (by kernel_rfl)) (by unfold Func.isWrapper; first | (rw [if_pos (by decide +kernel)]; kernel_rfl) | (rw [if_neg (by decide +kernel)]; exact ⟨rfl, rfl⟩))
    (fun os started H enc _ => lifted os started H enc)

theorem x_holds : Rows.FnOpsBentCardSaid :=
  Claim7.holds_tied_plain_at .later [] [.data, .pinned] true (true, "9eedbe63779bbcfec3df9c7fa74632f12595c94f91d7b61f2629b6163dd4ead0") false x_said (fun _ h => by cases h) (by kernel_rfl) (fun _ h => by cases h) fnOpsBent_row_tie rfl ⟨rfl, rfl⟩ (by kernel_rfl) rfl
    (fun f fn hf hfn => by
      obtain rfl : f = 6 := Option.some.inj ((show Tryz.prog.funcNamed "loop.example/g00322/laws.FnOpsBent" = some 6 by kernel_rfl).symm.trans hf) |>.symm
      obtain rfl : fn = Tryz.f6 := (Option.some.inj (Tryz.func6.symm.trans hfn)).symm
      exact ⟨by kernel_rfl, fun j t ht => by
        have hm : t ∈ Tryz.f6.params.toList := by simpa using Array.mem_of_getElem? ht
        have hall : (Tryz.f6.params.toList.all fun u => !Tryz.prog.wantsStandIn u) = true := by kernel_rfl
        exact (show Tryz.prog.wantsStandIn t = false by simpa using List.all_eq_true.1 hall t hm)⟩)
    (by kernel_rfl)

#print axioms x_holds
end Go.Proofs.YtddikflnjloagaaGreatDoor
