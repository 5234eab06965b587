/- Functions of the program, each with what it gives back. -/
import Derived.Test.YtkimclpagokeaaaDoorKe
import Derived.Test.YtkimclpagokeaaaDoorChecked
import Derived.IntWalk
import Derived.Test.YtkimclpagokeaaaDoorMb
import Derived.Test.YtkimclpagokeaaaDoorMc
import Derived.Test.YtkimclpagokeaaaDoorMd
import Derived.Test.YtkimclpagokeaaaDoorMf
import Derived.Test.YtkimclpagokeaaaDoorMk
namespace Go.Proofs.YtkimclpagokeaaaDoor
open Go Go.RowKit Go.IntWalk
open Enc (sz cs)
attribute [local irreducible] IntKind.wrap

attribute [local irreducible] mdN
theorem mdN_z {s : List Df} (h : s.length ≤ 2000000) : zMdb (mdN s) ≤ 2000000 := by
  have hc : ∀ n, cnt zTab (List.replicate n ([] : List (List Vl))) = 0 := fun n => by
    induction n with
    | zero => rfl
    | succ n ih => rw [List.replicate_succ]; simp [cnt, ih, zTab]
  by_cases e : fbN s = -1
  · rw [mdN_y e]
    unfold zMdb
    rw [hc, List.length_replicate]; omega
  · rw [mdN_n e]; show 0 ≤ _; omega
theorem mdN_c {s : List Df} : cnt cTb (mdN s) = 0 := by
  have hc : ∀ n, cnt cTb (List.replicate n ([] : List (List Vl))) = 0 := fun n => by
    induction n with
    | zero => rfl
    | succ n ih => rw [List.replicate_succ]; simp [cnt, ih, cTb]
  by_cases e : fbN s = -1
  · rw [mdN_y e, hc]
  · rw [mdN_n e]; rfl
theorem cDf_z : ∀ {s : List Df}, cnt cDf s ≤ 10 * zSc s := by
  have hI : ∀ l : List Ix, cnt cIx l ≤ 2 * (l.length + cnt zIx l) := fun l => by
    induction l with
    | nil => simp [cnt]
    | cons x l ih => simp only [cnt, cIx, zIx, List.length_cons] at *; omega
  intro s
  induction s with
  | nil => simp [cnt]
  | cons d s ih =>
    have := hI d.idx
    unfold zSc at *
    simp only [cnt, cDf, zDf, List.length_cons] at *
    omega

set_option maxHeartbeats 2000000 in
set_option maxRecDepth 100000 in
theorem tx3 {s : List Df} (hs : BdSc s := by first | assumption | omega | (simp; done) | (simp; omega)) : T 3 [aE s] [vB true] [none] := by
  refine w_call md [] Tryd.func3 rfl ?_
  obtain ⟨hb1, hb2⟩ := hs
  by_cases hz : zSc s ≤ 1048576
  · obtain ⟨ho1, ho2⟩ := OkSc.of (s := s) (by omega)
    obtain ⟨hm1, hm2⟩ := OkMdb.of (mdN_z (s := s) (by omega))
    have hm3 := mdN_c (s := s)
    have hc := cDf_z (s := s)
    have hS : T 4 [aE s, aI 1048576] [vI (1048576 - (zSc s : Nat))] [none, none] := by
      have := tx4 (l := s) (n := 1048576)
      rwa [if_neg (by unfold zSc at hz; omega)] at this
    repeat' ((conv => whnf); (first | (apply cx4; refine kl (hS) ?_) | (apply cx8; refine kl (tx8 (m := mdN s)) ?_) | (apply cx9; refine kl (tx9 (l := s)) ?_) | (apply cx10; refine kl (tx10 (l := s) (a := 1)) ?_) | (apply cx11; refine kl (tx11 (m := mdN s) (a := 1)) ?_) | (apply cx12; refine kl (tx12 (m := mdN s) (a := 1)) ?_) | refine k0 ?_ | refine jA fun _ => ?_ | refine jB fun _ => ?_ | refine kC (fun _ => ?_) fun _ => ?_ | refine jS ?_ | refine jI ?_ | (apply cx4; refine kl tx4 ?_) | (apply cx6; refine kl tx6 ?_) | (apply cx5; refine kl tx5 ?_) | (apply cx7; refine kl tx7 ?_) | (apply cx8; refine kl tx8 ?_) | (apply cx9; refine kl tx9 ?_) | (apply cx10; refine kl tx10 ?_) | (apply cx11; refine kl tx11 ?_) | (apply cx12; refine kl tx12 ?_) | refine jD ?_ | refine ⟨snc, _, snr, ?_⟩ | refine ⟨⟨Nat.le_refl _, rfl⟩, [], rfl, ?_⟩ | refine And.intro ⟨rfl, rfl, by decide, rfl⟩ ?_ | refine jP ?_ | refine jO ?_ | refine jX ?_ | refine jb jr ?_ | refine jb ofs ?_ | refine ko jc ?_ | refine ko jp ?_ | refine jM ?_ | refine kr ?_ | refine ko rfl ?_ | refine And.intro (cs_shal _) ?_ | refine And.intro (rfl : List.all _ _ = true) ?_ | refine And.intro ⟨rfl, (rfl : List.all _ _ = true)⟩ ?_ | exact ⟨rfl, rfl⟩ | exact jV | fail))
  · have hS : T 4 [aE s, aI 1048576] [vI (-1)] [none, none] := by
      have := tx4 (l := s) (n := 1048576)
      rwa [if_pos (by unfold zSc at hz; omega)] at this
    repeat' ((conv => whnf); (first | (apply cx4; refine kl (hS) ?_) | refine k0 ?_ | refine jA fun _ => ?_ | refine jB fun _ => ?_ | refine kC (fun _ => ?_) fun _ => ?_ | refine jS ?_ | refine jI ?_ | (apply cx4; refine kl tx4 ?_) | (apply cx6; refine kl tx6 ?_) | (apply cx5; refine kl tx5 ?_) | (apply cx7; refine kl tx7 ?_) | (apply cx8; refine kl tx8 ?_) | (apply cx9; refine kl tx9 ?_) | (apply cx10; refine kl tx10 ?_) | (apply cx11; refine kl tx11 ?_) | (apply cx12; refine kl tx12 ?_) | refine jD ?_ | refine ⟨snc, _, snr, ?_⟩ | refine ⟨⟨Nat.le_refl _, rfl⟩, [], rfl, ?_⟩ | refine And.intro ⟨rfl, rfl, by decide, rfl⟩ ?_ | refine jP ?_ | refine jO ?_ | refine jX ?_ | refine jb jr ?_ | refine jb ofs ?_ | refine ko jc ?_ | refine ko jp ?_ | refine jM ?_ | refine kr ?_ | refine ko rfl ?_ | refine And.intro (cs_shal _) ?_ | refine And.intro (rfl : List.all _ _ = true) ?_ | refine And.intro ⟨rfl, (rfl : List.all _ _ = true)⟩ ?_ | exact ⟨rfl, rfl⟩ | exact jV | fail))

theorem cx3 {P : Program} {X : FuncId → List Arg → List (Bool × List Cell) → List (Option (List Cell)) → Prop} {a : List Arg} {Q : List (Bool × List Cell) → List (Option (List Cell)) → Prop} (h : ∃ b vals outs, a = b ∧ D P X (.call 3 b vals outs) ∧ Q vals outs) : CallS P X 3 a Q := ⟨h⟩

end Go.Proofs.YtkimclpagokeaaaDoor
