/-
  DERIVED. GIVEN WITH THE SEED: THE CARDS: each row of YtddikflnjloagaaGreatDoorRows.lean that lists a variable, with what it lists TIED to the program's text (the seventh form; the later family's looks); each row that meets fmt, with fmt's text TOLD by the authors' own Lean function (tested against real Go, not proved from fmt's source: count such statements apart). THE CARD IS WHAT COUNTS. Prove the row's statement (the work); the ties are given (YtddikflnjloagaaGreatDoorTie.lean); close each card by the builder's one call (the guide's Derived/Test/ToyasCard.lean, 'card_holds'). Laid BY PROGRAM, IN A SANDBOX (cutbox-door.mjs). By AI agents, Wed Nov 11 2026. No macro, syntax, notation, axiom, sorry.
-/
import Derived.Test.YtddikflnjloagaaGreatDoorRows
import GoSem.ClaimSeven
namespace Go.Proofs.YtddikflnjloagaaGreatDoor
namespace Rows

/-- THE TIED CARD OF 'laws.FnTold'. -/
def fnToldCard : Claim7 := { stood := { row := fnToldRow, standIns := [], harness := (true, "9eedbe63779bbcfec3df9c7fa74632f12595c94f91d7b61f2629b6163dd4ead0"), looks := false }, kinds := [], alts := [], laidByText := true, laidKinds := [.data, .pinned], laidTests := true, laidLooks := .later }
def FnToldCardSaid : Prop := Claim7.holds Tryz.pinned (.plain (OpenSpec.ofChange fnToldSpec)) fnToldCard

/-- THE TIED CARD OF 'laws.FnOps'. -/
def fnOpsCard : Claim7 := { stood := { row := fnOpsRow, standIns := [], harness := (true, "9eedbe63779bbcfec3df9c7fa74632f12595c94f91d7b61f2629b6163dd4ead0"), looks := false }, kinds := [], alts := [], laidByText := true, laidKinds := [.data, .pinned], laidTests := true, laidLooks := .later }
def FnOpsCardSaid : Prop := Claim7.holds Tryz.pinned (.plain (OpenSpec.ofChange fnOpsSpec)) fnOpsCard

/-- THE TIED CARD OF 'laws.FnTables'. -/
def fnTablesCard : Claim7 := { stood := { row := fnTablesRow, standIns := [], harness := (true, "9eedbe63779bbcfec3df9c7fa74632f12595c94f91d7b61f2629b6163dd4ead0"), looks := false }, kinds := [], alts := [], laidByText := true, laidKinds := [.data, .pinned], laidTests := true, laidLooks := .later }
def FnTablesCardSaid : Prop := Claim7.holds Tryz.pinned (.plain (OpenSpec.ofChange fnTablesSpec)) fnTablesCard

/-- THE TIED CARD OF 'laws.FnOpsBent'. -/
def fnOpsBentCard : Claim7 := { stood := { row := fnOpsBentRow, standIns := [], harness := (true, "9eedbe63779bbcfec3df9c7fa74632f12595c94f91d7b61f2629b6163dd4ead0"), looks := false }, kinds := [], alts := [], laidByText := true, laidKinds := [.data, .pinned], laidTests := true, laidLooks := .later }
def FnOpsBentCardSaid : Prop := Claim7.holds Tryz.pinned (.plain (OpenSpec.ofChange fnOpsBentSpec)) fnOpsBentCard

/-- THE TIED CARD OF 'laws.FnBatches'. -/
def fnBatchesCard : Claim7 := { stood := { row := fnBatchesRow, standIns := [], harness := (true, "9eedbe63779bbcfec3df9c7fa74632f12595c94f91d7b61f2629b6163dd4ead0"), looks := false }, kinds := [], alts := [], laidByText := true, laidKinds := [.data, .pinned], laidTests := true, laidLooks := .later }
def FnBatchesCardSaid : Prop := Claim7.holds Tryz.pinned (.plain (OpenSpec.ofChange fnBatchesSpec)) fnBatchesCard

/-- THE SECOND FORM's CARD OF 'laws.FnTold'. -/
def fnToldUptoCard : Claim7 := { stood := { row := fnToldUptoRow, standIns := [], harness := (true, "9eedbe63779bbcfec3df9c7fa74632f12595c94f91d7b61f2629b6163dd4ead0"), looks := false }, kinds := [], alts := [], laidByText := true, laidKinds := [.data, .pinned], laidTests := true, laidLooks := .later }
def FnToldUptoCardSaid : Prop := Claim7.holds Tryz.pinned (.plain (OpenSpec.upto fnToldSpec)) fnToldUptoCard

/-- THE SECOND FORM's CARD OF 'laws.FnOps'. -/
def fnOpsUptoCard : Claim7 := { stood := { row := fnOpsUptoRow, standIns := [], harness := (true, "9eedbe63779bbcfec3df9c7fa74632f12595c94f91d7b61f2629b6163dd4ead0"), looks := false }, kinds := [], alts := [], laidByText := true, laidKinds := [.data, .pinned], laidTests := true, laidLooks := .later }
def FnOpsUptoCardSaid : Prop := Claim7.holds Tryz.pinned (.plain (OpenSpec.upto fnOpsSpec)) fnOpsUptoCard

/-- THE SECOND FORM's CARD OF 'laws.FnTables'. -/
def fnTablesUptoCard : Claim7 := { stood := { row := fnTablesUptoRow, standIns := [], harness := (true, "9eedbe63779bbcfec3df9c7fa74632f12595c94f91d7b61f2629b6163dd4ead0"), looks := false }, kinds := [], alts := [], laidByText := true, laidKinds := [.data, .pinned], laidTests := true, laidLooks := .later }
def FnTablesUptoCardSaid : Prop := Claim7.holds Tryz.pinned (.plain (OpenSpec.upto fnTablesSpec)) fnTablesUptoCard

/-- THE SECOND FORM's CARD OF 'laws.FnOpsBent'. -/
def fnOpsBentUptoCard : Claim7 := { stood := { row := fnOpsBentUptoRow, standIns := [], harness := (true, "9eedbe63779bbcfec3df9c7fa74632f12595c94f91d7b61f2629b6163dd4ead0"), looks := false }, kinds := [], alts := [], laidByText := true, laidKinds := [.data, .pinned], laidTests := true, laidLooks := .later }
def FnOpsBentUptoCardSaid : Prop := Claim7.holds Tryz.pinned (.plain (OpenSpec.upto fnOpsBentSpec)) fnOpsBentUptoCard

/-- THE SECOND FORM's CARD OF 'laws.FnBatches'. -/
def fnBatchesUptoCard : Claim7 := { stood := { row := fnBatchesUptoRow, standIns := [], harness := (true, "9eedbe63779bbcfec3df9c7fa74632f12595c94f91d7b61f2629b6163dd4ead0"), looks := false }, kinds := [], alts := [], laidByText := true, laidKinds := [.data, .pinned], laidTests := true, laidLooks := .later }
def FnBatchesUptoCardSaid : Prop := Claim7.holds Tryz.pinned (.plain (OpenSpec.upto fnBatchesSpec)) fnBatchesUptoCard
end Rows
end Go.Proofs.YtddikflnjloagaaGreatDoor
