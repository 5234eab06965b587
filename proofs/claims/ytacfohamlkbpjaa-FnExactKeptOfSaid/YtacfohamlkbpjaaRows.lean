/-
  No cell of these rows narrows 'for every input' (looked for: loops, veiled, ifaces, maps, wideKeys, modest, calm, conditions, laid).
  DERIVED. THE GIVEN ROWS OF THIS SEAT. 11 by the template 'for every input the law returns true; each argument reads behind the call as it read before'; 0 by the template 'total and deterministic' (their statements: YtacfohamlkbpjaaTotals.lean).
  GIVEN WITH THE SEED: the statements are not yours to turn. If you find one false, say at which input.
  Laid BY PROGRAM, IN A SANDBOX (cutbox-rows.mjs): the forced cells as the released guide's own fill.sh prints them over the translation 2f703115acd82625… (all of the seat's roots in one cut). By AI agents, Wed Nov 11 2026. No macro, syntax, notation, axiom, sorry.
-/
import Derived.Test.YtacfohamlkbpjaaChecked
import GoSem.Claim
import GoSem.ClaimJoined
import GoSem.ClaimMapViews
import Derived.JoinedTies
import Derived.KernelRfl
namespace Go.Proofs.Ytacfohamlkbpjaa
/- THE CELL 'sum', in the pinned program and in every row, IS THE sha256 OF THE DUMP (.gsa) THAT YtacfohamlkbpjaaProg.lean LOADS. Nothing in Lean hashes anything: it is a label: what it is worth is what the hold of that sum in a sandbox is worth. -/
noncomputable def Try.pinned : Pinned := { name := "ytacfohamlkbpjaa", sum := "2f703115acd82625cf82c6c304c3d064dece540c32d3cac4eac892f5726ee218", checked := Try.checked }
namespace Rows
def none {H : Type} : Left H := { results := [], args := [] }

/-- 'laws.FnExactPutMeta': WHATEVER THE INPUT: true; the input reads as it did. -/
def fnExactPutMetaSpec : ChangeSpec := { name := "fnExactPutMeta", fn := fun _ => fun
  | [d] => { results := [.lit (.bool true)], args := [d] }
  | _ => none }
def fnExactPutMetaRow : OpenClaim := { program := "ytacfohamlkbpjaa", sum := "2f703115acd82625cf82c6c304c3d064dece540c32d3cac4eac892f5726ee218", func := "loop.example/g00322/laws.FnExactPutMeta", spec := "fnExactPutMeta", apart := false }
def FnExactPutMetaSaid : Prop := fnExactPutMetaRow.holds Try.pinned (OpenSpec.ofChange fnExactPutMetaSpec)

/-- ITS FALSE NEIGHBOUR: 'it returns false'. Refute it at one input. -/
def fnExactPutMetaWrong : ChangeSpec := { name := "fnExactPutMeta", fn := fun _ => fun
  | [d] => { results := [.lit (.bool false)], args := [d] }
  | _ => none }
def FnExactPutMetaWrongFalsely : Prop := fnExactPutMetaRow.holds Try.pinned (OpenSpec.ofChange fnExactPutMetaWrong)

/-- 'laws.FnExactGetMeta': WHATEVER THE INPUT: true; the input reads as it did. -/
def fnExactGetMetaSpec : ChangeSpec := { name := "fnExactGetMeta", fn := fun _ => fun
  | [d] => { results := [.lit (.bool true)], args := [d] }
  | _ => none }
def fnExactGetMetaRow : OpenClaim := { program := "ytacfohamlkbpjaa", sum := "2f703115acd82625cf82c6c304c3d064dece540c32d3cac4eac892f5726ee218", func := "loop.example/g00322/laws.FnExactGetMeta", spec := "fnExactGetMeta", apart := false }
def FnExactGetMetaSaid : Prop := fnExactGetMetaRow.holds Try.pinned (OpenSpec.ofChange fnExactGetMetaSpec)

/-- ITS FALSE NEIGHBOUR: 'it returns false'. Refute it at one input. -/
def fnExactGetMetaWrong : ChangeSpec := { name := "fnExactGetMeta", fn := fun _ => fun
  | [d] => { results := [.lit (.bool false)], args := [d] }
  | _ => none }
def FnExactGetMetaWrongFalsely : Prop := fnExactGetMetaRow.holds Try.pinned (OpenSpec.ofChange fnExactGetMetaWrong)

/-- 'laws.FnMetas': WHATEVER THE INPUT: true; the input reads as it did. -/
def fnMetasSpec : ChangeSpec := { name := "fnMetas", fn := fun _ => fun
  | [d] => { results := [.lit (.bool true)], args := [d] }
  | _ => none }
def fnMetasRow : OpenClaim := { program := "ytacfohamlkbpjaa", sum := "2f703115acd82625cf82c6c304c3d064dece540c32d3cac4eac892f5726ee218", func := "loop.example/g00322/laws.FnMetas", spec := "fnMetas", apart := false }
def FnMetasSaid : Prop := fnMetasRow.holds Try.pinned (OpenSpec.ofChange fnMetasSpec)

/-- ITS FALSE NEIGHBOUR: 'it returns false'. Refute it at one input. -/
def fnMetasWrong : ChangeSpec := { name := "fnMetas", fn := fun _ => fun
  | [d] => { results := [.lit (.bool false)], args := [d] }
  | _ => none }
def FnMetasWrongFalsely : Prop := fnMetasRow.holds Try.pinned (OpenSpec.ofChange fnMetasWrong)

/-- 'laws.FnExactReopen': WHATEVER THE INPUT: true; the input reads as it did. -/
def fnExactReopenSpec : ChangeSpec := { name := "fnExactReopen", fn := fun _ => fun
  | [d] => { results := [.lit (.bool true)], args := [d] }
  | _ => none }
def fnExactReopenRow : OpenClaim := { program := "ytacfohamlkbpjaa", sum := "2f703115acd82625cf82c6c304c3d064dece540c32d3cac4eac892f5726ee218", func := "loop.example/g00322/laws.FnExactReopen", spec := "fnExactReopen", apart := false }
def FnExactReopenSaid : Prop := fnExactReopenRow.holds Try.pinned (OpenSpec.ofChange fnExactReopenSpec)

/-- ITS FALSE NEIGHBOUR: 'it returns false'. Refute it at one input. -/
def fnExactReopenWrong : ChangeSpec := { name := "fnExactReopen", fn := fun _ => fun
  | [d] => { results := [.lit (.bool false)], args := [d] }
  | _ => none }
def FnExactReopenWrongFalsely : Prop := fnExactReopenRow.holds Try.pinned (OpenSpec.ofChange fnExactReopenWrong)

/-- 'laws.FnExactFormat': WHATEVER THE INPUT: true; the input reads as it did. -/
def fnExactFormatSpec : ChangeSpec := { name := "fnExactFormat", fn := fun _ => fun
  | [d1, d2] => { results := [.lit (.bool true)], args := [d1, d2] }
  | _ => none }
def fnExactFormatRow : OpenClaim := { program := "ytacfohamlkbpjaa", sum := "2f703115acd82625cf82c6c304c3d064dece540c32d3cac4eac892f5726ee218", func := "loop.example/g00322/laws.FnExactFormat", spec := "fnExactFormat", apart := false }
def FnExactFormatSaid : Prop := fnExactFormatRow.holds Try.pinned (OpenSpec.ofChange fnExactFormatSpec)

/-- ITS FALSE NEIGHBOUR: 'it returns false'. Refute it at one input. -/
def fnExactFormatWrong : ChangeSpec := { name := "fnExactFormat", fn := fun _ => fun
  | [d1, d2] => { results := [.lit (.bool false)], args := [d1, d2] }
  | _ => none }
def FnExactFormatWrongFalsely : Prop := fnExactFormatRow.holds Try.pinned (OpenSpec.ofChange fnExactFormatWrong)

/-- 'laws.FnExactBestMeta': WHATEVER THE INPUT: true; the input reads as it did. -/
def fnExactBestMetaSpec : ChangeSpec := { name := "fnExactBestMeta", fn := fun _ => fun
  | [d] => { results := [.lit (.bool true)], args := [d] }
  | _ => none }
def fnExactBestMetaRow : OpenClaim := { program := "ytacfohamlkbpjaa", sum := "2f703115acd82625cf82c6c304c3d064dece540c32d3cac4eac892f5726ee218", func := "loop.example/g00322/laws.FnExactBestMeta", spec := "fnExactBestMeta", apart := false }
def FnExactBestMetaSaid : Prop := fnExactBestMetaRow.holds Try.pinned (OpenSpec.ofChange fnExactBestMetaSpec)

/-- ITS FALSE NEIGHBOUR: 'it returns false'. Refute it at one input. -/
def fnExactBestMetaWrong : ChangeSpec := { name := "fnExactBestMeta", fn := fun _ => fun
  | [d] => { results := [.lit (.bool false)], args := [d] }
  | _ => none }
def FnExactBestMetaWrongFalsely : Prop := fnExactBestMetaRow.holds Try.pinned (OpenSpec.ofChange fnExactBestMetaWrong)

/-- 'laws.FnBest': WHATEVER THE INPUT: true; the input reads as it did. -/
def fnBestSpec : ChangeSpec := { name := "fnBest", fn := fun _ => fun
  | [d] => { results := [.lit (.bool true)], args := [d] }
  | _ => none }
def fnBestRow : OpenClaim := { program := "ytacfohamlkbpjaa", sum := "2f703115acd82625cf82c6c304c3d064dece540c32d3cac4eac892f5726ee218", func := "loop.example/g00322/laws.FnBest", spec := "fnBest", apart := false }
def FnBestSaid : Prop := fnBestRow.holds Try.pinned (OpenSpec.ofChange fnBestSpec)

/-- ITS FALSE NEIGHBOUR: 'it returns false'. Refute it at one input. -/
def fnBestWrong : ChangeSpec := { name := "fnBest", fn := fun _ => fun
  | [d] => { results := [.lit (.bool false)], args := [d] }
  | _ => none }
def FnBestWrongFalsely : Prop := fnBestRow.holds Try.pinned (OpenSpec.ofChange fnBestWrong)

/-- 'laws.FnExactTxNew': WHATEVER THE INPUT: true; the input reads as it did. -/
def fnExactTxNewSpec : ChangeSpec := { name := "fnExactTxNew", fn := fun _ => fun
  | [d] => { results := [.lit (.bool true)], args := [d] }
  | _ => none }
def fnExactTxNewRow : OpenClaim := { program := "ytacfohamlkbpjaa", sum := "2f703115acd82625cf82c6c304c3d064dece540c32d3cac4eac892f5726ee218", func := "loop.example/g00322/laws.FnExactTxNew", spec := "fnExactTxNew", apart := false }
def FnExactTxNewSaid : Prop := fnExactTxNewRow.holds Try.pinned (OpenSpec.ofChange fnExactTxNewSpec)

/-- ITS FALSE NEIGHBOUR: 'it returns false'. Refute it at one input. -/
def fnExactTxNewWrong : ChangeSpec := { name := "fnExactTxNew", fn := fun _ => fun
  | [d] => { results := [.lit (.bool false)], args := [d] }
  | _ => none }
def FnExactTxNewWrongFalsely : Prop := fnExactTxNewRow.holds Try.pinned (OpenSpec.ofChange fnExactTxNewWrong)

/-- 'laws.FnExactNodeAt': WHATEVER THE INPUT: true; the input reads as it did. -/
def fnExactNodeAtSpec : ChangeSpec := { name := "fnExactNodeAt", fn := fun _ => fun
  | [d1, d2] => { results := [.lit (.bool true)], args := [d1, d2] }
  | _ => none }
def fnExactNodeAtRow : OpenClaim := { program := "ytacfohamlkbpjaa", sum := "2f703115acd82625cf82c6c304c3d064dece540c32d3cac4eac892f5726ee218", func := "loop.example/g00322/laws.FnExactNodeAt", spec := "fnExactNodeAt", apart := false }
def FnExactNodeAtSaid : Prop := fnExactNodeAtRow.holds Try.pinned (OpenSpec.ofChange fnExactNodeAtSpec)

/-- ITS FALSE NEIGHBOUR: 'it returns false'. Refute it at one input. -/
def fnExactNodeAtWrong : ChangeSpec := { name := "fnExactNodeAt", fn := fun _ => fun
  | [d1, d2] => { results := [.lit (.bool false)], args := [d1, d2] }
  | _ => none }
def FnExactNodeAtWrongFalsely : Prop := fnExactNodeAtRow.holds Try.pinned (OpenSpec.ofChange fnExactNodeAtWrong)

/-- 'laws.FnExactDepthOf': WHATEVER THE INPUT: true; the input reads as it did. -/
def fnExactDepthOfSpec : ChangeSpec := { name := "fnExactDepthOf", fn := fun _ => fun
  | [d] => { results := [.lit (.bool true)], args := [d] }
  | _ => none }
def fnExactDepthOfRow : OpenClaim := { program := "ytacfohamlkbpjaa", sum := "2f703115acd82625cf82c6c304c3d064dece540c32d3cac4eac892f5726ee218", func := "loop.example/g00322/laws.FnExactDepthOf", spec := "fnExactDepthOf", apart := false }
def FnExactDepthOfSaid : Prop := fnExactDepthOfRow.holds Try.pinned (OpenSpec.ofChange fnExactDepthOfSpec)

/-- ITS FALSE NEIGHBOUR: 'it returns false'. Refute it at one input. -/
def fnExactDepthOfWrong : ChangeSpec := { name := "fnExactDepthOf", fn := fun _ => fun
  | [d] => { results := [.lit (.bool false)], args := [d] }
  | _ => none }
def FnExactDepthOfWrongFalsely : Prop := fnExactDepthOfRow.holds Try.pinned (OpenSpec.ofChange fnExactDepthOfWrong)

/-- 'laws.FnExactKeptOf': WHATEVER THE INPUT: true; the input reads as it did. -/
def fnExactKeptOfSpec : ChangeSpec := { name := "fnExactKeptOf", fn := fun _ => fun
  | [d] => { results := [.lit (.bool true)], args := [d] }
  | _ => none }
def fnExactKeptOfRow : OpenClaim := { program := "ytacfohamlkbpjaa", sum := "2f703115acd82625cf82c6c304c3d064dece540c32d3cac4eac892f5726ee218", func := "loop.example/g00322/laws.FnExactKeptOf", spec := "fnExactKeptOf", recurses := true, apart := false }
def FnExactKeptOfSaid : Prop := fnExactKeptOfRow.holds Try.pinned (OpenSpec.ofChange fnExactKeptOfSpec)

/-- ITS FALSE NEIGHBOUR: 'it returns false'. Refute it at one input. -/
def fnExactKeptOfWrong : ChangeSpec := { name := "fnExactKeptOf", fn := fun _ => fun
  | [d] => { results := [.lit (.bool false)], args := [d] }
  | _ => none }
def FnExactKeptOfWrongFalsely : Prop := fnExactKeptOfRow.holds Try.pinned (OpenSpec.ofChange fnExactKeptOfWrong)

/- THE SECOND FORM. 'bulk': how many values and letters a reading holds, each counted each time it is reached (what is shared counts as often as it is met; a slice's spare places count too). A statement '..UptoSaid' is the law's where the arguments, and the package variables that the reading takes, are together of bulk at most 1048576: NARROWER than '..Said'. Prove '..Said' where nothing that the law and all that it calls make is longer than what came in: it says more and counts as full. Else prove '..UptoSaid'. A law counts once. -/
mutual
def uptoBulk {H : Type} : DataW H → Nat
  | .lit (.string bytes) => bytes.length + 1
  | .lit _ => 1
  | .nil => 1
  | .ptr d => uptoBulk d + 1
  | .slice elems spare => uptoBulkAll elems + uptoBulkAll spare + 1
  | .agg parts => uptoBulkAll parts + 1
  | .iface _ d => uptoBulk d + 1
  | .map entries => uptoBulkEntries entries + 1
  | .held _ => 1
def uptoBulkAll {H : Type} : List (DataW H) → Nat
  | [] => 0
  | d :: r => uptoBulk d + uptoBulkAll r
def uptoBulkEntries {H : Type} : List (Lit × DataW H) → Nat
  | [] => 0
  | x :: r => uptoBulkEntry x + uptoBulkEntries r
def uptoBulkEntry {H : Type} : Lit × DataW H → Nat
  | (.string bytes, d) => bytes.length + uptoBulk d + 1
  | (_, d) => uptoBulk d + 1
 end
def uptoSmall : (H : Type) → List (DataW H) → Bool := fun _ ds => decide (uptoBulkAll ds ≤ 1048576)
def OpenSpec.upto (s : _root_.Go.ChangeSpec) : _root_.Go.OpenSpec := { _root_.Go.OpenSpec.ofChange s with cond := some uptoSmall }

/-- 'laws.FnExactPutMeta', WHERE WHAT IT READS IS OF BULK AT MOST 1048576: true; the input reads as it did. -/
def fnExactPutMetaUptoRow : OpenClaim := { program := "ytacfohamlkbpjaa", sum := "2f703115acd82625cf82c6c304c3d064dece540c32d3cac4eac892f5726ee218", func := "loop.example/g00322/laws.FnExactPutMeta", spec := "fnExactPutMeta", apart := false, narrowed := true }
def FnExactPutMetaUptoSaid : Prop := fnExactPutMetaUptoRow.holds Try.pinned (OpenSpec.upto fnExactPutMetaSpec)

/-- 'laws.FnExactGetMeta', WHERE WHAT IT READS IS OF BULK AT MOST 1048576: true; the input reads as it did. -/
def fnExactGetMetaUptoRow : OpenClaim := { program := "ytacfohamlkbpjaa", sum := "2f703115acd82625cf82c6c304c3d064dece540c32d3cac4eac892f5726ee218", func := "loop.example/g00322/laws.FnExactGetMeta", spec := "fnExactGetMeta", apart := false, narrowed := true }
def FnExactGetMetaUptoSaid : Prop := fnExactGetMetaUptoRow.holds Try.pinned (OpenSpec.upto fnExactGetMetaSpec)

/-- 'laws.FnMetas', WHERE WHAT IT READS IS OF BULK AT MOST 1048576: true; the input reads as it did. -/
def fnMetasUptoRow : OpenClaim := { program := "ytacfohamlkbpjaa", sum := "2f703115acd82625cf82c6c304c3d064dece540c32d3cac4eac892f5726ee218", func := "loop.example/g00322/laws.FnMetas", spec := "fnMetas", apart := false, narrowed := true }
def FnMetasUptoSaid : Prop := fnMetasUptoRow.holds Try.pinned (OpenSpec.upto fnMetasSpec)

/-- 'laws.FnExactReopen', WHERE WHAT IT READS IS OF BULK AT MOST 1048576: true; the input reads as it did. -/
def fnExactReopenUptoRow : OpenClaim := { program := "ytacfohamlkbpjaa", sum := "2f703115acd82625cf82c6c304c3d064dece540c32d3cac4eac892f5726ee218", func := "loop.example/g00322/laws.FnExactReopen", spec := "fnExactReopen", apart := false, narrowed := true }
def FnExactReopenUptoSaid : Prop := fnExactReopenUptoRow.holds Try.pinned (OpenSpec.upto fnExactReopenSpec)

/-- 'laws.FnExactFormat', WHERE WHAT IT READS IS OF BULK AT MOST 1048576: true; the input reads as it did. -/
def fnExactFormatUptoRow : OpenClaim := { program := "ytacfohamlkbpjaa", sum := "2f703115acd82625cf82c6c304c3d064dece540c32d3cac4eac892f5726ee218", func := "loop.example/g00322/laws.FnExactFormat", spec := "fnExactFormat", apart := false, narrowed := true }
def FnExactFormatUptoSaid : Prop := fnExactFormatUptoRow.holds Try.pinned (OpenSpec.upto fnExactFormatSpec)

/-- 'laws.FnExactBestMeta', WHERE WHAT IT READS IS OF BULK AT MOST 1048576: true; the input reads as it did. -/
def fnExactBestMetaUptoRow : OpenClaim := { program := "ytacfohamlkbpjaa", sum := "2f703115acd82625cf82c6c304c3d064dece540c32d3cac4eac892f5726ee218", func := "loop.example/g00322/laws.FnExactBestMeta", spec := "fnExactBestMeta", apart := false, narrowed := true }
def FnExactBestMetaUptoSaid : Prop := fnExactBestMetaUptoRow.holds Try.pinned (OpenSpec.upto fnExactBestMetaSpec)

/-- 'laws.FnBest', WHERE WHAT IT READS IS OF BULK AT MOST 1048576: true; the input reads as it did. -/
def fnBestUptoRow : OpenClaim := { program := "ytacfohamlkbpjaa", sum := "2f703115acd82625cf82c6c304c3d064dece540c32d3cac4eac892f5726ee218", func := "loop.example/g00322/laws.FnBest", spec := "fnBest", apart := false, narrowed := true }
def FnBestUptoSaid : Prop := fnBestUptoRow.holds Try.pinned (OpenSpec.upto fnBestSpec)

/-- 'laws.FnExactTxNew', WHERE WHAT IT READS IS OF BULK AT MOST 1048576: true; the input reads as it did. -/
def fnExactTxNewUptoRow : OpenClaim := { program := "ytacfohamlkbpjaa", sum := "2f703115acd82625cf82c6c304c3d064dece540c32d3cac4eac892f5726ee218", func := "loop.example/g00322/laws.FnExactTxNew", spec := "fnExactTxNew", apart := false, narrowed := true }
def FnExactTxNewUptoSaid : Prop := fnExactTxNewUptoRow.holds Try.pinned (OpenSpec.upto fnExactTxNewSpec)

/-- 'laws.FnExactNodeAt', WHERE WHAT IT READS IS OF BULK AT MOST 1048576: true; the input reads as it did. -/
def fnExactNodeAtUptoRow : OpenClaim := { program := "ytacfohamlkbpjaa", sum := "2f703115acd82625cf82c6c304c3d064dece540c32d3cac4eac892f5726ee218", func := "loop.example/g00322/laws.FnExactNodeAt", spec := "fnExactNodeAt", apart := false, narrowed := true }
def FnExactNodeAtUptoSaid : Prop := fnExactNodeAtUptoRow.holds Try.pinned (OpenSpec.upto fnExactNodeAtSpec)

/-- 'laws.FnExactDepthOf', WHERE WHAT IT READS IS OF BULK AT MOST 1048576: true; the input reads as it did. -/
def fnExactDepthOfUptoRow : OpenClaim := { program := "ytacfohamlkbpjaa", sum := "2f703115acd82625cf82c6c304c3d064dece540c32d3cac4eac892f5726ee218", func := "loop.example/g00322/laws.FnExactDepthOf", spec := "fnExactDepthOf", apart := false, narrowed := true }
def FnExactDepthOfUptoSaid : Prop := fnExactDepthOfUptoRow.holds Try.pinned (OpenSpec.upto fnExactDepthOfSpec)

/-- 'laws.FnExactKeptOf', WHERE WHAT IT READS IS OF BULK AT MOST 1048576: true; the input reads as it did. -/
def fnExactKeptOfUptoRow : OpenClaim := { program := "ytacfohamlkbpjaa", sum := "2f703115acd82625cf82c6c304c3d064dece540c32d3cac4eac892f5726ee218", func := "loop.example/g00322/laws.FnExactKeptOf", spec := "fnExactKeptOf", recurses := true, apart := false, narrowed := true }
def FnExactKeptOfUptoSaid : Prop := fnExactKeptOfUptoRow.holds Try.pinned (OpenSpec.upto fnExactKeptOfSpec)

end Rows
end Go.Proofs.Ytacfohamlkbpjaa
