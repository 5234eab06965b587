/- Functions of the program, each with what it gives back. -/
import Derived.Test.YtacfohamlkbpjaaGreatKe
import Derived.Test.YtacfohamlkbpjaaGreatChecked
import Derived.IntWalk
import Derived.Test.YtacfohamlkbpjaaGreatLh
import Derived.Test.YtacfohamlkbpjaaGreatLa
import Derived.Test.YtacfohamlkbpjaaGreatLd
import Derived.Test.YtacfohamlkbpjaaGreatLe
import Derived.Test.YtacfohamlkbpjaaGreatFs
namespace Go.Proofs.YtacfohamlkbpjaaGreat
open Go Go.RowKit Go.IntWalk
open Enc (sz cs)
attribute [local irreducible] IntKind.wrap

attribute [local irreducible] gU gT gS gP gM ptP ptM ptS crcN rdS bestM ndA vis prsF

set_option maxRecDepth 100000 in
theorem tx3 {t : Txn} (hd : BdT t := by first | assumption | omega | (simp; done) | (simp; omega)) : T 3 [.val true (txnC false t)] [vB true] [none] := by
  refine w_call md [] Tryz.func3 rfl ?_
  by_cases hz : zT t ≤ 1048576
  · have ho : OkT t := .of (by omega)
    have hc := cT_le t
    have hl := prsF_len (t := t) (by omega)
    have hS : T 4 [.val true (txnC false t), aI 1048576] [vI (1048576 - (zT t : Nat))] [none, none] := by
      have := tx4 (t := t) (n := 1048576)
      rwa [if_neg (by omega)] at this
    repeat' ((conv => whnf); (first | (apply cx4; refine kl (hS) ?_) | (apply cx9; refine kl (tx9 (t := t)) ?_) | (apply cx10; refine kl (tx10 (t := t) (a := 1)) ?_) | (apply cx8; refine kl (tx8 (l := prsF t)) ?_) | (apply cx11; refine kl (tx11 (l := prsF t) (a := 1)) ?_) | (apply cx12; refine kl (tx12 (l := prsF t) (a := 1)) ?_) | refine k0 ?_ | refine jA fun _ => ?_ | refine jB fun _ => ?_ | refine kC (fun _ => ?_) fun _ => ?_ | refine jS ?_ | refine jI ?_ | (apply cx4; refine kl tx4 ?_) | (apply cx6; refine kl tx6 ?_) | (apply cx5; refine kl tx5 ?_) | (apply cx7; refine kl tx7 ?_) | (apply cx8; refine kl tx8 ?_) | (apply cx9; refine kl tx9 ?_) | (apply cx10; refine kl tx10 ?_) | (apply cx11; refine kl tx11 ?_) | (apply cx12; refine kl tx12 ?_) | refine jD ?_ | refine ⟨snc, _, snr, ?_⟩ | refine ⟨⟨Nat.le_refl _, rfl⟩, [], rfl, ?_⟩ | refine And.intro ⟨rfl, rfl, by decide, rfl⟩ ?_ | refine jP ?_ | refine jO ?_ | refine jX ?_ | refine jb jr ?_ | refine jb ofs ?_ | refine ko jc ?_ | refine ko jp ?_ | refine jM ?_ | refine kr ?_ | refine ko rfl ?_ | refine And.intro (cs_shal _) ?_ | refine And.intro (rfl : List.all _ _ = true) ?_ | refine And.intro ⟨rfl, (rfl : List.all _ _ = true)⟩ ?_ | exact ⟨rfl, rfl⟩ | exact jV | fail))
  · have hS : T 4 [.val true (txnC false t), aI 1048576] [vI (-1)] [none, none] := by
      have := tx4 (t := t) (n := 1048576)
      rwa [if_pos (by omega)] at this
    repeat' ((conv => whnf); (first | (apply cx4; refine kl (hS) ?_) | refine k0 ?_ | refine jA fun _ => ?_ | refine jB fun _ => ?_ | refine kC (fun _ => ?_) fun _ => ?_ | refine jS ?_ | refine jI ?_ | (apply cx4; refine kl tx4 ?_) | (apply cx6; refine kl tx6 ?_) | (apply cx5; refine kl tx5 ?_) | (apply cx7; refine kl tx7 ?_) | (apply cx8; refine kl tx8 ?_) | (apply cx9; refine kl tx9 ?_) | (apply cx10; refine kl tx10 ?_) | (apply cx11; refine kl tx11 ?_) | (apply cx12; refine kl tx12 ?_) | refine jD ?_ | refine ⟨snc, _, snr, ?_⟩ | refine ⟨⟨Nat.le_refl _, rfl⟩, [], rfl, ?_⟩ | refine And.intro ⟨rfl, rfl, by decide, rfl⟩ ?_ | refine jP ?_ | refine jO ?_ | refine jX ?_ | refine jb jr ?_ | refine jb ofs ?_ | refine ko jc ?_ | refine ko jp ?_ | refine jM ?_ | refine kr ?_ | refine ko rfl ?_ | refine And.intro (cs_shal _) ?_ | refine And.intro (rfl : List.all _ _ = true) ?_ | refine And.intro ⟨rfl, (rfl : List.all _ _ = true)⟩ ?_ | exact ⟨rfl, rfl⟩ | exact jV | fail))

theorem cx3 {P : Program} {X : FuncId → List Arg → List (Bool × List Cell) → List (Option (List Cell)) → Prop} {a : List Arg} {Q : List (Bool × List Cell) → List (Option (List Cell)) → Prop} (h : ∃ b vals outs, a = b ∧ D P X (.call 3 b vals outs) ∧ Q vals outs) : CallS P X 3 a Q := ⟨h⟩

end Go.Proofs.YtacfohamlkbpjaaGreat
