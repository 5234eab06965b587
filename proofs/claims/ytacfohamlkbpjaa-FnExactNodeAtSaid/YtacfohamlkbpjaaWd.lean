/- Functions of the program, each with what it gives back. -/
import Derived.Test.YtacfohamlkbpjaaKe
import Derived.Test.YtacfohamlkbpjaaChecked
import Derived.IntWalk
import Derived.Test.YtacfohamlkbpjaaLh
import Derived.Test.YtacfohamlkbpjaaLa
import Derived.Test.YtacfohamlkbpjaaLd
import Derived.Test.YtacfohamlkbpjaaLe
import Derived.Test.YtacfohamlkbpjaaFo
namespace Go.Proofs.Ytacfohamlkbpjaa
open Go Go.RowKit Go.IntWalk
open Enc (sz cs)
attribute [local irreducible] IntKind.wrap

attribute [local irreducible] gU gT gS gP gM ptP ptM ptS crcN rdS bestM ndA

set_option maxRecDepth 100000 in
theorem tx11 {t : Txn} {n : Int} (hd : BdT t := by first | assumption | omega | (simp; done) | (simp; omega)) : T 11 [.val true (txnC false t), aI n] [vB true] [none, none] := by
  refine w_call md [] Try.func11 rfl ?_
  by_cases hz : zT t ≤ 1048576
  · have ho : OkT t := .of (by omega)
    have hc := cT_le t
    have hnl := ndA_len t n
    have hn : OkN (ndA t n).1 := .of (by omega)
    have hcn := cN_le (ndA t n).1
    have hS : T 54 [.val true (txnC false t), aI 1048576] [vI (1048576 - (zT t : Nat))] [none, none] := by
      have := tx54 (t := t) (n := 1048576)
      rwa [if_neg (by omega)] at this
    repeat' ((conv => whnf); (first | (apply cx54; refine kl (hS) ?_) | (apply cx51; refine kl (tx51 (t := t)) ?_) | (apply cx52; refine kl (tx52 (t := t) (a := 1)) ?_) | (apply cx58; refine kl (tx58 (x := (ndA t n).1)) ?_) | (apply cx59; refine kl (tx59 (x := (ndA t n).1) (a := 1)) ?_) | (apply cx60; refine kl (tx60 (x := (ndA t n).1) (a := 1)) ?_) | refine k0 ?_ | refine jA fun _ => ?_ | refine jB fun _ => ?_ | refine kC (fun _ => ?_) fun _ => ?_ | refine jS ?_ | refine jI ?_ | (apply cx54; refine kl tx54 ?_) | (apply cx56; refine kl tx56 ?_) | (apply cx55; refine kl tx55 ?_) | (apply cx57; refine kl tx57 ?_) | (apply cx58; refine kl tx58 ?_) | (apply cx51; refine kl tx51 ?_) | (apply cx52; refine kl tx52 ?_) | (apply cx59; refine kl tx59 ?_) | (apply cx60; refine kl tx60 ?_) | refine jD ?_ | refine ⟨snc, _, snr, ?_⟩ | refine ⟨⟨Nat.le_refl _, rfl⟩, [], rfl, ?_⟩ | refine And.intro ⟨rfl, rfl, by decide, rfl⟩ ?_ | refine jP ?_ | refine jO ?_ | refine jX ?_ | refine jb jr ?_ | refine jb ofs ?_ | refine ko jc ?_ | refine ko jp ?_ | refine jM ?_ | refine kr ?_ | refine ko rfl ?_ | refine And.intro (cs_shal _) ?_ | refine And.intro (rfl : List.all _ _ = true) ?_ | refine And.intro ⟨rfl, (rfl : List.all _ _ = true)⟩ ?_ | exact ⟨rfl, rfl⟩ | exact jV | fail))
  · have hS : T 54 [.val true (txnC false t), aI 1048576] [vI (-1)] [none, none] := by
      have := tx54 (t := t) (n := 1048576)
      rwa [if_pos (by omega)] at this
    repeat' ((conv => whnf); (first | (apply cx54; refine kl (hS) ?_) | refine k0 ?_ | refine jA fun _ => ?_ | refine jB fun _ => ?_ | refine kC (fun _ => ?_) fun _ => ?_ | refine jS ?_ | refine jI ?_ | (apply cx54; refine kl tx54 ?_) | (apply cx56; refine kl tx56 ?_) | (apply cx55; refine kl tx55 ?_) | (apply cx57; refine kl tx57 ?_) | (apply cx58; refine kl tx58 ?_) | (apply cx51; refine kl tx51 ?_) | (apply cx52; refine kl tx52 ?_) | (apply cx59; refine kl tx59 ?_) | (apply cx60; refine kl tx60 ?_) | refine jD ?_ | refine ⟨snc, _, snr, ?_⟩ | refine ⟨⟨Nat.le_refl _, rfl⟩, [], rfl, ?_⟩ | refine And.intro ⟨rfl, rfl, by decide, rfl⟩ ?_ | refine jP ?_ | refine jO ?_ | refine jX ?_ | refine jb jr ?_ | refine jb ofs ?_ | refine ko jc ?_ | refine ko jp ?_ | refine jM ?_ | refine kr ?_ | refine ko rfl ?_ | refine And.intro (cs_shal _) ?_ | refine And.intro (rfl : List.all _ _ = true) ?_ | refine And.intro ⟨rfl, (rfl : List.all _ _ = true)⟩ ?_ | exact ⟨rfl, rfl⟩ | exact jV | fail))

theorem cx11 {P : Program} {X : FuncId → List Arg → List (Bool × List Cell) → List (Option (List Cell)) → Prop} {a : List Arg} {Q : List (Bool × List Cell) → List (Option (List Cell)) → Prop} (h : ∃ b vals outs, a = b ∧ D P X (.call 11 b vals outs) ∧ Q vals outs) : CallS P X 11 a Q := ⟨h⟩

end Go.Proofs.Ytacfohamlkbpjaa
