/-
  DERIVED. GIVEN WITH THE SEED: THE CARDS: each row of YtkimclpagokeaaaDoorRows.lean that lists a variable, with what it lists TIED to the program's text (the seventh form; the later family's looks); each row that meets fmt, with fmt's text TOLD by the authors' own Lean function (tested against real Go, not proved from fmt's source: count such statements apart). THE CARD IS WHAT COUNTS. Prove the row's statement (the work); the ties are given (YtkimclpagokeaaaDoorTie.lean); close each card by the builder's one call (the guide's Derived/Test/ToyasCard.lean, 'card_holds'). Laid BY PROGRAM, IN A SANDBOX (cutbox-door.mjs). By AI agents, Wed Nov 11 2026. No macro, syntax, notation, axiom, sorry.
-/
import Derived.Test.YtkimclpagokeaaaDoorRows
import GoSem.ClaimSeven
namespace Go.Proofs.YtkimclpagokeaaaDoor
namespace Rows

/-- THE TIED CARD OF 'laws.FnExactMdbNew'. -/
def fnExactMdbNewCard : Claim7 := { stood := { row := fnExactMdbNewRow, standIns := [], harness := (true, "f02500582f38c12c7def4e43fe0931f58c1a2652f87093f1f8ee72051dd34c1b"), looks := false }, kinds := [], alts := [], laidByText := true, laidKinds := [.data, .pinned], laidTests := true, laidLooks := .later }
def FnExactMdbNewCardSaid : Prop := Claim7.holds Tryd.pinned (.plain (OpenSpec.ofChange fnExactMdbNewSpec)) fnExactMdbNewCard

/-- THE SECOND FORM's CARD OF 'laws.FnExactMdbNew'. -/
def fnExactMdbNewUptoCard : Claim7 := { stood := { row := fnExactMdbNewUptoRow, standIns := [], harness := (true, "f02500582f38c12c7def4e43fe0931f58c1a2652f87093f1f8ee72051dd34c1b"), looks := false }, kinds := [], alts := [], laidByText := true, laidKinds := [.data, .pinned], laidTests := true, laidLooks := .later }
def FnExactMdbNewUptoCardSaid : Prop := Claim7.holds Tryd.pinned (.plain (OpenSpec.upto fnExactMdbNewSpec)) fnExactMdbNewUptoCard
end Rows
end Go.Proofs.YtkimclpagokeaaaDoor
