/-
  No cell of these rows narrows 'for every input' (looked for: loops, veiled, ifaces, maps, wideKeys, modest, calm, conditions, laid).
  DERIVED. THE GIVEN ROWS OF THIS SEAT. 4 by the template 'for every input the law returns true; each argument reads behind the call as it read before'; 0 by the template 'total and deterministic' (their statements: YtkggnekdjdnhiaaGreatTotals.lean).
  GIVEN WITH THE SEED: the statements are not yours to turn. If you find one false, say at which input.
  Laid BY PROGRAM, IN A SANDBOX (cutbox-rows.mjs): the forced cells as the released guide's own fill.sh prints them over the translation 00ad5a8ca006bdb3… (all of the seat's roots in one cut). By AI agents, Wed Nov 11 2026. No macro, syntax, notation, axiom, sorry.
-/
import Derived.Test.YtkggnekdjdnhiaaGreatChecked
import GoSem.Claim
import GoSem.ClaimJoined
import GoSem.ClaimMapViews
import Derived.JoinedTies
import Derived.KernelRfl
namespace Go.Proofs.YtkggnekdjdnhiaaGreat
/- THE CELL 'sum', in the pinned program and in every row, IS THE sha256 OF THE DUMP (.gsa) THAT YtkggnekdjdnhiaaGreatProg.lean LOADS. Nothing in Lean hashes anything: it is a label: what it is worth is what the hold of that sum in a sandbox is worth. -/
noncomputable def Tryz.pinned : Pinned := { name := "ytkggnekdjdnhiaagreat", sum := "00ad5a8ca006bdb3ffd9446863fe6cf5b6d7f4124bb80660b2dca5f8c97618a7", checked := Tryz.checked }
namespace Rows
def none {H : Type} : Left H := { results := [], args := [] }

/-- 'laws.FnExactRangeOf': WHATEVER THE INPUT: true; the input reads as it did. -/
def fnExactRangeOfSpec : ChangeSpec := { name := "fnExactRangeOf", fn := fun _ => fun
  | [d1, d2, d3, d4, d5] => { results := [.lit (.bool true)], args := [d1, d2, d3, d4, d5] }
  | _ => none }
def fnExactRangeOfRow : OpenClaim := { program := "ytkggnekdjdnhiaagreat", sum := "00ad5a8ca006bdb3ffd9446863fe6cf5b6d7f4124bb80660b2dca5f8c97618a7", func := "loop.example/g00322/laws.FnExactRangeOf", spec := "fnExactRangeOf", recurses := true, apart := false }
def FnExactRangeOfSaid : Prop := fnExactRangeOfRow.holds Tryz.pinned (OpenSpec.ofChange fnExactRangeOfSpec)

/-- ITS FALSE NEIGHBOUR: 'it returns false'. Refute it at one input. -/
def fnExactRangeOfWrong : ChangeSpec := { name := "fnExactRangeOf", fn := fun _ => fun
  | [d1, d2, d3, d4, d5] => { results := [.lit (.bool false)], args := [d1, d2, d3, d4, d5] }
  | _ => none }
def FnExactRangeOfWrongFalsely : Prop := fnExactRangeOfRow.holds Tryz.pinned (OpenSpec.ofChange fnExactRangeOfWrong)

/-- 'laws.FnExactFreeOf': WHATEVER THE INPUT: true; the input reads as it did. -/
def fnExactFreeOfSpec : ChangeSpec := { name := "fnExactFreeOf", fn := fun _ => fun
  | [d] => { results := [.lit (.bool true)], args := [d] }
  | _ => none }
def fnExactFreeOfRow : OpenClaim := { program := "ytkggnekdjdnhiaagreat", sum := "00ad5a8ca006bdb3ffd9446863fe6cf5b6d7f4124bb80660b2dca5f8c97618a7", func := "loop.example/g00322/laws.FnExactFreeOf", spec := "fnExactFreeOf", recurses := true, apart := false }
def FnExactFreeOfSaid : Prop := fnExactFreeOfRow.holds Tryz.pinned (OpenSpec.ofChange fnExactFreeOfSpec)

/-- ITS FALSE NEIGHBOUR: 'it returns false'. Refute it at one input. -/
def fnExactFreeOfWrong : ChangeSpec := { name := "fnExactFreeOf", fn := fun _ => fun
  | [d] => { results := [.lit (.bool false)], args := [d] }
  | _ => none }
def FnExactFreeOfWrongFalsely : Prop := fnExactFreeOfRow.holds Tryz.pinned (OpenSpec.ofChange fnExactFreeOfWrong)

/-- 'laws.FnExactTxnOk': WHATEVER THE INPUT: true; the input reads as it did. -/
def fnExactTxnOkSpec : ChangeSpec := { name := "fnExactTxnOk", fn := fun _ => fun
  | [d] => { results := [.lit (.bool true)], args := [d] }
  | _ => none }
def fnExactTxnOkRow : OpenClaim := { program := "ytkggnekdjdnhiaagreat", sum := "00ad5a8ca006bdb3ffd9446863fe6cf5b6d7f4124bb80660b2dca5f8c97618a7", func := "loop.example/g00322/laws.FnExactTxnOk", spec := "fnExactTxnOk", recurses := true, apart := false }
def FnExactTxnOkSaid : Prop := fnExactTxnOkRow.holds Tryz.pinned (OpenSpec.ofChange fnExactTxnOkSpec)

/-- ITS FALSE NEIGHBOUR: 'it returns false'. Refute it at one input. -/
def fnExactTxnOkWrong : ChangeSpec := { name := "fnExactTxnOk", fn := fun _ => fun
  | [d] => { results := [.lit (.bool false)], args := [d] }
  | _ => none }
def FnExactTxnOkWrongFalsely : Prop := fnExactTxnOkRow.holds Tryz.pinned (OpenSpec.ofChange fnExactTxnOkWrong)

/-- 'laws.FnExactCommit': WHATEVER THE INPUT: true; the input reads as it did. -/
def fnExactCommitSpec : ChangeSpec := { name := "fnExactCommit", fn := fun _ => fun
  | [d] => { results := [.lit (.bool true)], args := [d] }
  | _ => none }
def fnExactCommitRow : OpenClaim := { program := "ytkggnekdjdnhiaagreat", sum := "00ad5a8ca006bdb3ffd9446863fe6cf5b6d7f4124bb80660b2dca5f8c97618a7", func := "loop.example/g00322/laws.FnExactCommit", spec := "fnExactCommit", recurses := true, apart := false }
def FnExactCommitSaid : Prop := fnExactCommitRow.holds Tryz.pinned (OpenSpec.ofChange fnExactCommitSpec)

/-- ITS FALSE NEIGHBOUR: 'it returns false'. Refute it at one input. -/
def fnExactCommitWrong : ChangeSpec := { name := "fnExactCommit", fn := fun _ => fun
  | [d] => { results := [.lit (.bool false)], args := [d] }
  | _ => none }
def FnExactCommitWrongFalsely : Prop := fnExactCommitRow.holds Tryz.pinned (OpenSpec.ofChange fnExactCommitWrong)

/- THE SECOND FORM. 'bulk': how many values and letters a reading holds, each counted each time it is reached (what is shared counts as often as it is met; a slice's spare places count too). A statement '..UptoSaid' is the law's where the arguments, and the package variables that the reading takes, are together of bulk at most 1048576: NARROWER than '..Said'. Prove '..Said' where nothing that the law and all that it calls make is longer than what came in: it says more and counts as full. Else prove '..UptoSaid'. A law counts once. -/
mutual
def uptoBulk {H : Type} : DataW H → Nat
  | .lit (.string bytes) => bytes.length + 1
  | .lit _ => 1
  | .nil => 1
  | .ptr d => uptoBulk d + 1
  | .slice elems spare => uptoBulkAll elems + uptoBulkAll spare + 1
  | .agg parts => uptoBulkAll parts + 1
  | .iface _ d => uptoBulk d + 1
  | .map entries => uptoBulkEntries entries + 1
  | .held _ => 1
def uptoBulkAll {H : Type} : List (DataW H) → Nat
  | [] => 0
  | d :: r => uptoBulk d + uptoBulkAll r
def uptoBulkEntries {H : Type} : List (Lit × DataW H) → Nat
  | [] => 0
  | x :: r => uptoBulkEntry x + uptoBulkEntries r
def uptoBulkEntry {H : Type} : Lit × DataW H → Nat
  | (.string bytes, d) => bytes.length + uptoBulk d + 1
  | (_, d) => uptoBulk d + 1
 end
def uptoSmall : (H : Type) → List (DataW H) → Bool := fun _ ds => decide (uptoBulkAll ds ≤ 1048576)
def OpenSpec.upto (s : _root_.Go.ChangeSpec) : _root_.Go.OpenSpec := { _root_.Go.OpenSpec.ofChange s with cond := some uptoSmall }

/-- 'laws.FnExactRangeOf', WHERE WHAT IT READS IS OF BULK AT MOST 1048576: true; the input reads as it did. -/
def fnExactRangeOfUptoRow : OpenClaim := { program := "ytkggnekdjdnhiaagreat", sum := "00ad5a8ca006bdb3ffd9446863fe6cf5b6d7f4124bb80660b2dca5f8c97618a7", func := "loop.example/g00322/laws.FnExactRangeOf", spec := "fnExactRangeOf", recurses := true, apart := false, narrowed := true }
def FnExactRangeOfUptoSaid : Prop := fnExactRangeOfUptoRow.holds Tryz.pinned (OpenSpec.upto fnExactRangeOfSpec)

/-- 'laws.FnExactFreeOf', WHERE WHAT IT READS IS OF BULK AT MOST 1048576: true; the input reads as it did. -/
def fnExactFreeOfUptoRow : OpenClaim := { program := "ytkggnekdjdnhiaagreat", sum := "00ad5a8ca006bdb3ffd9446863fe6cf5b6d7f4124bb80660b2dca5f8c97618a7", func := "loop.example/g00322/laws.FnExactFreeOf", spec := "fnExactFreeOf", recurses := true, apart := false, narrowed := true }
def FnExactFreeOfUptoSaid : Prop := fnExactFreeOfUptoRow.holds Tryz.pinned (OpenSpec.upto fnExactFreeOfSpec)

/-- 'laws.FnExactTxnOk', WHERE WHAT IT READS IS OF BULK AT MOST 1048576: true; the input reads as it did. -/
def fnExactTxnOkUptoRow : OpenClaim := { program := "ytkggnekdjdnhiaagreat", sum := "00ad5a8ca006bdb3ffd9446863fe6cf5b6d7f4124bb80660b2dca5f8c97618a7", func := "loop.example/g00322/laws.FnExactTxnOk", spec := "fnExactTxnOk", recurses := true, apart := false, narrowed := true }
def FnExactTxnOkUptoSaid : Prop := fnExactTxnOkUptoRow.holds Tryz.pinned (OpenSpec.upto fnExactTxnOkSpec)

/-- 'laws.FnExactCommit', WHERE WHAT IT READS IS OF BULK AT MOST 1048576: true; the input reads as it did. -/
def fnExactCommitUptoRow : OpenClaim := { program := "ytkggnekdjdnhiaagreat", sum := "00ad5a8ca006bdb3ffd9446863fe6cf5b6d7f4124bb80660b2dca5f8c97618a7", func := "loop.example/g00322/laws.FnExactCommit", spec := "fnExactCommit", recurses := true, apart := false, narrowed := true }
def FnExactCommitUptoSaid : Prop := fnExactCommitUptoRow.holds Tryz.pinned (OpenSpec.upto fnExactCommitSpec)

end Rows
end Go.Proofs.YtkggnekdjdnhiaaGreat
