/- Functions of the program, each with what it gives back. -/
import Derived.Test.YtopnaijeicknoaaGreatDoorKe
import Derived.Test.YtopnaijeicknoaaGreatDoorChecked
import Derived.IntWalk
import Derived.Test.YtopnaijeicknoaaGreatDoorM1
import Derived.Test.YtopnaijeicknoaaGreatDoorWn
namespace Go.Proofs.YtopnaijeicknoaaGreatDoor
open Go Go.RowKit Go.IntWalk
open Enc (sz cs)
attribute [local irreducible] IntKind.wrap

attribute [local irreducible] fbN cdN moI moS

set_option maxHeartbeats 2000000 in
set_option maxRecDepth 100000 in
theorem tx3 {s : List Df} {m : Tbs} (hs : BdSc s := by first | assumption | omega | (simp; done) | (simp; omega)) (hm : BdMdb m := by first | assumption | omega | (simp; done) | (simp; omega)) : T 3 [aE s, .val true [slE false m]] [vB true] [none, none] := by
  refine w_call md [] Tryz.func3 rfl ?_
  obtain ⟨hb1, hb2⟩ := hs
  have ez : zSc s = s.length + cnt zDf s := rfl
  by_cases hz1 : zSc s ≤ 1048576
  · have hS1 : T 6 [aE s, aI 1048576] [vI (1048576 - (zSc s : Nat))] [none, none] := by
      have := tx6 (l := s) (n := 1048576)
      rwa [if_neg (by omega)] at this
    by_cases hz2 : zSc s + zMdb m ≤ 1048576
    · have hS2 : T 7 [.val true [slE false m], aI (1048576 - (zSc s : Nat))] [vI (1048576 - (zSc s : Nat) - (zMdb m : Nat))] [none, none] := by
        have := tx7 (m := m) (n := 1048576 - (zSc s : Nat))
        rwa [if_neg (by omega)] at this
      obtain ⟨ho1, ho2⟩ := OkSc.of (s := s) (by omega)
      obtain ⟨hm1, hm2⟩ := OkMdb.of (m := m) (by omega)
      obtain ⟨b, hr⟩ : ∃ b, moS s m = b := ⟨_, rfl⟩
      have hSp : T 8 [aE s, .val true [slE false m]] [vB b] [none, none] := by
        have h := tx8 (s := s) (m := m)
        rwa [hr] at h
      have hIm : T 11 [aE s, .val true [slE false m]] [vB b] [none, none] := by
        have h := tx11 (s := s) (m := m)
        rwa [moIS, hr] at h
      cases b
      · repeat' ((conv => whnf); (first | (apply cx6; refine kl (hS1) ?_) | (apply cx7; refine kl (hS2) ?_) | (apply cx8; refine kl (hSp) ?_) | (apply cx11; refine kl (hIm) ?_) | refine k0 ?_ | refine jA fun _ => ?_ | refine jB fun _ => ?_ | refine kC (fun _ => ?_) fun _ => ?_ | refine jS ?_ | refine jI ?_ | (apply cx6; refine kl tx6 ?_) | (apply cx7; refine kl tx7 ?_) | (apply cx9; refine kl tx9 ?_) | (apply cx10; refine kl tx10 ?_) | (apply cx8; refine kl tx8 ?_) | (apply cx11; refine kl tx11 ?_) | (apply cx12; refine kl tx12 ?_) | (apply cx13; refine kl tx13 ?_) | refine jD ?_ | refine ⟨snc, _, snr, ?_⟩ | refine ⟨⟨Nat.le_refl _, rfl⟩, [], rfl, ?_⟩ | refine And.intro ⟨rfl, rfl, by decide, rfl⟩ ?_ | refine jP ?_ | refine jO ?_ | refine jX ?_ | refine jb jr ?_ | refine jb ofs ?_ | refine ko jc ?_ | refine ko jp ?_ | refine jM ?_ | refine kr ?_ | refine ko rfl ?_ | refine And.intro (cs_shal _) ?_ | refine And.intro (rfl : List.all _ _ = true) ?_ | refine And.intro ⟨rfl, (rfl : List.all _ _ = true)⟩ ?_ | exact ⟨rfl, rfl⟩ | exact jV | fail))
      · repeat' ((conv => whnf); (first | (apply cx6; refine kl (hS1) ?_) | (apply cx7; refine kl (hS2) ?_) | (apply cx8; refine kl (hSp) ?_) | (apply cx11; refine kl (hIm) ?_) | refine k0 ?_ | refine jA fun _ => ?_ | refine jB fun _ => ?_ | refine kC (fun _ => ?_) fun _ => ?_ | refine jS ?_ | refine jI ?_ | (apply cx6; refine kl tx6 ?_) | (apply cx7; refine kl tx7 ?_) | (apply cx9; refine kl tx9 ?_) | (apply cx10; refine kl tx10 ?_) | (apply cx8; refine kl tx8 ?_) | (apply cx11; refine kl tx11 ?_) | (apply cx12; refine kl tx12 ?_) | (apply cx13; refine kl tx13 ?_) | refine jD ?_ | refine ⟨snc, _, snr, ?_⟩ | refine ⟨⟨Nat.le_refl _, rfl⟩, [], rfl, ?_⟩ | refine And.intro ⟨rfl, rfl, by decide, rfl⟩ ?_ | refine jP ?_ | refine jO ?_ | refine jX ?_ | refine jb jr ?_ | refine jb ofs ?_ | refine ko jc ?_ | refine ko jp ?_ | refine jM ?_ | refine kr ?_ | refine ko rfl ?_ | refine And.intro (cs_shal _) ?_ | refine And.intro (rfl : List.all _ _ = true) ?_ | refine And.intro ⟨rfl, (rfl : List.all _ _ = true)⟩ ?_ | exact ⟨rfl, rfl⟩ | exact jV | fail))
    · have hS2 : T 7 [.val true [slE false m], aI (1048576 - (zSc s : Nat))] [vI (-1)] [none, none] := by
        have := tx7 (m := m) (n := 1048576 - (zSc s : Nat))
        rwa [if_pos (by omega)] at this
      repeat' ((conv => whnf); (first | (apply cx6; refine kl (hS1) ?_) | (apply cx7; refine kl (hS2) ?_) | refine k0 ?_ | refine jA fun _ => ?_ | refine jB fun _ => ?_ | refine kC (fun _ => ?_) fun _ => ?_ | refine jS ?_ | refine jI ?_ | (apply cx6; refine kl tx6 ?_) | (apply cx7; refine kl tx7 ?_) | (apply cx9; refine kl tx9 ?_) | (apply cx10; refine kl tx10 ?_) | (apply cx8; refine kl tx8 ?_) | (apply cx11; refine kl tx11 ?_) | (apply cx12; refine kl tx12 ?_) | (apply cx13; refine kl tx13 ?_) | refine jD ?_ | refine ⟨snc, _, snr, ?_⟩ | refine ⟨⟨Nat.le_refl _, rfl⟩, [], rfl, ?_⟩ | refine And.intro ⟨rfl, rfl, by decide, rfl⟩ ?_ | refine jP ?_ | refine jO ?_ | refine jX ?_ | refine jb jr ?_ | refine jb ofs ?_ | refine ko jc ?_ | refine ko jp ?_ | refine jM ?_ | refine kr ?_ | refine ko rfl ?_ | refine And.intro (cs_shal _) ?_ | refine And.intro (rfl : List.all _ _ = true) ?_ | refine And.intro ⟨rfl, (rfl : List.all _ _ = true)⟩ ?_ | exact ⟨rfl, rfl⟩ | exact jV | fail))
  · have hS1 : T 6 [aE s, aI 1048576] [vI (-1)] [none, none] := by
      have := tx6 (l := s) (n := 1048576)
      rwa [if_pos (by omega)] at this
    repeat' ((conv => whnf); (first | (apply cx6; refine kl (hS1) ?_) | refine k0 ?_ | refine jA fun _ => ?_ | refine jB fun _ => ?_ | refine kC (fun _ => ?_) fun _ => ?_ | refine jS ?_ | refine jI ?_ | (apply cx6; refine kl tx6 ?_) | (apply cx7; refine kl tx7 ?_) | (apply cx9; refine kl tx9 ?_) | (apply cx10; refine kl tx10 ?_) | (apply cx8; refine kl tx8 ?_) | (apply cx11; refine kl tx11 ?_) | (apply cx12; refine kl tx12 ?_) | (apply cx13; refine kl tx13 ?_) | refine jD ?_ | refine ⟨snc, _, snr, ?_⟩ | refine ⟨⟨Nat.le_refl _, rfl⟩, [], rfl, ?_⟩ | refine And.intro ⟨rfl, rfl, by decide, rfl⟩ ?_ | refine jP ?_ | refine jO ?_ | refine jX ?_ | refine jb jr ?_ | refine jb ofs ?_ | refine ko jc ?_ | refine ko jp ?_ | refine jM ?_ | refine kr ?_ | refine ko rfl ?_ | refine And.intro (cs_shal _) ?_ | refine And.intro (rfl : List.all _ _ = true) ?_ | refine And.intro ⟨rfl, (rfl : List.all _ _ = true)⟩ ?_ | exact ⟨rfl, rfl⟩ | exact jV | fail))

theorem cx3 {P : Program} {X : FuncId → List Arg → List (Bool × List Cell) → List (Option (List Cell)) → Prop} {a : List Arg} {Q : List (Bool × List Cell) → List (Option (List Cell)) → Prop} (h : ∃ b vals outs, a = b ∧ D P X (.call 3 b vals outs) ∧ Q vals outs) : CallS P X 3 a Q := ⟨h⟩

end Go.Proofs.YtopnaijeicknoaaGreatDoor
