/-
  DERIVED. GIVEN WITH THE SEED: THE CARDS: each row of YtkimclpagokeaaaGreatDoorRows.lean that lists a variable, with what it lists TIED to the program's text (the seventh form; the later family's looks); each row that meets fmt, with fmt's text TOLD by the authors' own Lean function (tested against real Go, not proved from fmt's source: count such statements apart). THE CARD IS WHAT COUNTS. Prove the row's statement (the work); the ties are given (YtkimclpagokeaaaGreatDoorTie.lean); close each card by the builder's one call (the guide's Derived/Test/ToyasCard.lean, 'card_holds'). Laid BY PROGRAM, IN A SANDBOX (cutbox-door.mjs). By AI agents, Wed Nov 11 2026. No macro, syntax, notation, axiom, sorry.
-/
import Derived.Test.YtkimclpagokeaaaGreatDoorRows
import GoSem.ClaimSeven
namespace Go.Proofs.YtkimclpagokeaaaGreatDoor
namespace Rows

/-- THE TIED CARD OF 'laws.FnExactRowAt'. -/
def fnExactRowAtCard : Claim7 := { stood := { row := fnExactRowAtRow, standIns := [], harness := (true, "8ec529f358335a9a28c62fc40648204dee6afb6266fcc13fc3415597490df962"), looks := false }, kinds := [], alts := [], laidByText := true, laidKinds := [.data, .pinned], laidTests := true, laidLooks := .later }
def FnExactRowAtCardSaid : Prop := Claim7.holds Tryz.pinned (.plain (OpenSpec.ofChange fnExactRowAtSpec)) fnExactRowAtCard

/-- THE SECOND FORM's CARD OF 'laws.FnExactRowAt'. -/
def fnExactRowAtUptoCard : Claim7 := { stood := { row := fnExactRowAtUptoRow, standIns := [], harness := (true, "8ec529f358335a9a28c62fc40648204dee6afb6266fcc13fc3415597490df962"), looks := false }, kinds := [], alts := [], laidByText := true, laidKinds := [.data, .pinned], laidTests := true, laidLooks := .later }
def FnExactRowAtUptoCardSaid : Prop := Claim7.holds Tryz.pinned (.plain (OpenSpec.upto fnExactRowAtSpec)) fnExactRowAtUptoCard
end Rows
end Go.Proofs.YtkimclpagokeaaaGreatDoor
