/- Functions of the program, each with what it gives back. -/
import Derived.Test.YtacfohamlkbpjaaKe
import Derived.Test.YtacfohamlkbpjaaChecked
import Derived.IntWalk
import Derived.Test.YtacfohamlkbpjaaLh
import Derived.Test.YtacfohamlkbpjaaLa
import Derived.Test.YtacfohamlkbpjaaLd
import Derived.Test.YtacfohamlkbpjaaLe
import Derived.Test.YtacfohamlkbpjaaFs
namespace Go.Proofs.Ytacfohamlkbpjaa
open Go Go.RowKit Go.IntWalk
open Enc (sz cs)
attribute [local irreducible] IntKind.wrap

attribute [local irreducible] gU gT gS gP gM ptP ptM ptS crcN rdS bestM ndA vis prsF

set_option maxRecDepth 100000 in
theorem tx13 {d : Dsk} (hd : BdD d := by first | assumption | omega | (simp; done) | (simp; omega)) : T 13 [.val true (dskC false d)] [vB true] [none] := by
  refine w_call md [] Try.func13 rfl ?_
  by_cases hz : zD d ≤ 1048576
  · have ho : OkD d := .of (by omega)
    have hc := cD_le d
    have hw := zT_tx d
    have hl := prsF_len (t := txN d) (by omega)
    have hS : T 31 [.val true (dskC false d), aI 1048576] [vI (1048576 - (zD d : Nat))] [none, none] := by
      have := tx31 (d := d) (n := 1048576)
      rwa [if_neg (by omega)] at this
    repeat' ((conv => whnf); (first | (apply cx31; refine kl (hS) ?_) | (apply cx35; refine kl (tx35 (d := d)) ?_) | (apply cx36; refine kl (tx36 (d := d) (a := 1)) ?_) | (apply cx65; refine kl (tx65 (l := prsF (txN d))) ?_) | (apply cx66; refine kl (tx66 (l := prsF (txN d)) (a := 1)) ?_) | (apply cx67; refine kl (tx67 (l := prsF (txN d)) (a := 1)) ?_) | refine k0 ?_ | refine jA fun _ => ?_ | refine jB fun _ => ?_ | refine kC (fun _ => ?_) fun _ => ?_ | refine jS ?_ | refine jI ?_ | (apply cx31; refine kl tx31 ?_) | (apply cx33; refine kl tx33 ?_) | (apply cx63; refine kl tx63 ?_) | (apply cx64; refine kl tx64 ?_) | (apply cx65; refine kl tx65 ?_) | (apply cx35; refine kl tx35 ?_) | (apply cx36; refine kl tx36 ?_) | (apply cx66; refine kl tx66 ?_) | (apply cx67; refine kl tx67 ?_) | refine jD ?_ | refine ⟨snc, _, snr, ?_⟩ | refine ⟨⟨Nat.le_refl _, rfl⟩, [], rfl, ?_⟩ | refine And.intro ⟨rfl, rfl, by decide, rfl⟩ ?_ | refine jP ?_ | refine jO ?_ | refine jX ?_ | refine jb jr ?_ | refine jb ofs ?_ | refine ko jc ?_ | refine ko jp ?_ | refine jM ?_ | refine kr ?_ | refine ko rfl ?_ | refine And.intro (cs_shal _) ?_ | refine And.intro (rfl : List.all _ _ = true) ?_ | refine And.intro ⟨rfl, (rfl : List.all _ _ = true)⟩ ?_ | exact ⟨rfl, rfl⟩ | exact jV | fail))
  · have hS : T 31 [.val true (dskC false d), aI 1048576] [vI (-1)] [none, none] := by
      have := tx31 (d := d) (n := 1048576)
      rwa [if_pos (by omega)] at this
    repeat' ((conv => whnf); (first | (apply cx31; refine kl (hS) ?_) | refine k0 ?_ | refine jA fun _ => ?_ | refine jB fun _ => ?_ | refine kC (fun _ => ?_) fun _ => ?_ | refine jS ?_ | refine jI ?_ | (apply cx31; refine kl tx31 ?_) | (apply cx33; refine kl tx33 ?_) | (apply cx63; refine kl tx63 ?_) | (apply cx64; refine kl tx64 ?_) | (apply cx65; refine kl tx65 ?_) | (apply cx35; refine kl tx35 ?_) | (apply cx36; refine kl tx36 ?_) | (apply cx66; refine kl tx66 ?_) | (apply cx67; refine kl tx67 ?_) | refine jD ?_ | refine ⟨snc, _, snr, ?_⟩ | refine ⟨⟨Nat.le_refl _, rfl⟩, [], rfl, ?_⟩ | refine And.intro ⟨rfl, rfl, by decide, rfl⟩ ?_ | refine jP ?_ | refine jO ?_ | refine jX ?_ | refine jb jr ?_ | refine jb ofs ?_ | refine ko jc ?_ | refine ko jp ?_ | refine jM ?_ | refine kr ?_ | refine ko rfl ?_ | refine And.intro (cs_shal _) ?_ | refine And.intro (rfl : List.all _ _ = true) ?_ | refine And.intro ⟨rfl, (rfl : List.all _ _ = true)⟩ ?_ | exact ⟨rfl, rfl⟩ | exact jV | fail))

theorem cx13 {P : Program} {X : FuncId → List Arg → List (Bool × List Cell) → List (Option (List Cell)) → Prop} {a : List Arg} {Q : List (Bool × List Cell) → List (Option (List Cell)) → Prop} (h : ∃ b vals outs, a = b ∧ D P X (.call 13 b vals outs) ∧ Q vals outs) : CallS P X 13 a Q := ⟨h⟩

end Go.Proofs.Ytacfohamlkbpjaa
