/-
  DERIVED. GIVEN WITH THE SEED: THE CARDS: each row of YtopnaijeicknoaaGreatDoorRows.lean that lists a variable, with what it lists TIED to the program's text (the seventh form; the later family's looks); each row that meets fmt, with fmt's text TOLD by the authors' own Lean function (tested against real Go, not proved from fmt's source: count such statements apart). THE CARD IS WHAT COUNTS. Prove the row's statement (the work); the ties are given (YtopnaijeicknoaaGreatDoorTie.lean); close each card by the builder's one call (the guide's Derived/Test/ToyasCard.lean, 'card_holds'). Laid BY PROGRAM, IN A SANDBOX (cutbox-door.mjs). By AI agents, Wed Nov 11 2026. No macro, syntax, notation, axiom, sorry.
-/
import Derived.Test.YtopnaijeicknoaaGreatDoorRows
import GoSem.ClaimSeven
namespace Go.Proofs.YtopnaijeicknoaaGreatDoor
namespace Rows

/-- THE TIED CARD OF 'laws.FnExactMdbOk'. -/
def fnExactMdbOkCard : Claim7 := { stood := { row := fnExactMdbOkRow, standIns := [], harness := (true, "31bfd86f1325c72602845e47de8e6e4d2008001454e93e8f3dbb9dc1f1561ebf"), looks := false }, kinds := [], alts := [], laidByText := true, laidKinds := [.data, .pinned], laidTests := true, laidLooks := .later }
def FnExactMdbOkCardSaid : Prop := Claim7.holds Tryz.pinned (.plain (OpenSpec.ofChange fnExactMdbOkSpec)) fnExactMdbOkCard

/-- THE TIED CARD OF 'laws.FnExactApplyOp'. -/
def fnExactApplyOpCard : Claim7 := { stood := { row := fnExactApplyOpRow, standIns := [], harness := (true, "31bfd86f1325c72602845e47de8e6e4d2008001454e93e8f3dbb9dc1f1561ebf"), looks := false }, kinds := [], alts := [], laidByText := true, laidKinds := [.data, .pinned], laidTests := true, laidLooks := .later }
def FnExactApplyOpCardSaid : Prop := Claim7.holds Tryz.pinned (.plain (OpenSpec.ofChange fnExactApplyOpSpec)) fnExactApplyOpCard

/-- THE TIED CARD OF 'laws.FnExactApplyBatch'. -/
def fnExactApplyBatchCard : Claim7 := { stood := { row := fnExactApplyBatchRow, standIns := [], harness := (true, "31bfd86f1325c72602845e47de8e6e4d2008001454e93e8f3dbb9dc1f1561ebf"), looks := false }, kinds := [], alts := [], laidByText := true, laidKinds := [.data, .pinned], laidTests := true, laidLooks := .later }
def FnExactApplyBatchCardSaid : Prop := Claim7.holds Tryz.pinned (.plain (OpenSpec.ofChange fnExactApplyBatchSpec)) fnExactApplyBatchCard

/-- THE SECOND FORM's CARD OF 'laws.FnExactMdbOk'. -/
def fnExactMdbOkUptoCard : Claim7 := { stood := { row := fnExactMdbOkUptoRow, standIns := [], harness := (true, "31bfd86f1325c72602845e47de8e6e4d2008001454e93e8f3dbb9dc1f1561ebf"), looks := false }, kinds := [], alts := [], laidByText := true, laidKinds := [.data, .pinned], laidTests := true, laidLooks := .later }
def FnExactMdbOkUptoCardSaid : Prop := Claim7.holds Tryz.pinned (.plain (OpenSpec.upto fnExactMdbOkSpec)) fnExactMdbOkUptoCard

/-- THE SECOND FORM's CARD OF 'laws.FnExactApplyOp'. -/
def fnExactApplyOpUptoCard : Claim7 := { stood := { row := fnExactApplyOpUptoRow, standIns := [], harness := (true, "31bfd86f1325c72602845e47de8e6e4d2008001454e93e8f3dbb9dc1f1561ebf"), looks := false }, kinds := [], alts := [], laidByText := true, laidKinds := [.data, .pinned], laidTests := true, laidLooks := .later }
def FnExactApplyOpUptoCardSaid : Prop := Claim7.holds Tryz.pinned (.plain (OpenSpec.upto fnExactApplyOpSpec)) fnExactApplyOpUptoCard

/-- THE SECOND FORM's CARD OF 'laws.FnExactApplyBatch'. -/
def fnExactApplyBatchUptoCard : Claim7 := { stood := { row := fnExactApplyBatchUptoRow, standIns := [], harness := (true, "31bfd86f1325c72602845e47de8e6e4d2008001454e93e8f3dbb9dc1f1561ebf"), looks := false }, kinds := [], alts := [], laidByText := true, laidKinds := [.data, .pinned], laidTests := true, laidLooks := .later }
def FnExactApplyBatchUptoCardSaid : Prop := Claim7.holds Tryz.pinned (.plain (OpenSpec.upto fnExactApplyBatchSpec)) fnExactApplyBatchUptoCard
end Rows
end Go.Proofs.YtopnaijeicknoaaGreatDoor
