/- Functions of the program, each with what it gives back. -/
import Derived.Test.YtopnaijeicknoaaGreatDoorKe
import Derived.Test.YtopnaijeicknoaaGreatDoorChecked
import Derived.IntWalk
import Derived.Test.YtopnaijeicknoaaGreatDoorM7
import Derived.Test.YtopnaijeicknoaaGreatDoorM9
import Derived.Test.YtopnaijeicknoaaGreatDoorWn
import Derived.Test.YtopnaijeicknoaaGreatDoorN2
namespace Go.Proofs.YtopnaijeicknoaaGreatDoor
open Go Go.RowKit Go.IntWalk
open Enc (sz cs)
attribute [local irreducible] IntKind.wrap

attribute [local irreducible] fbN cdN moI moS apN
theorem cTb_y {t : List (List Vl)} : cnt cR t ≤ 3 * zTab t := by
  induction t with
  | nil => simp [cnt]
  | cons r t ih =>
    have e : zTab (r :: t) = (r :: t).length + cnt zRow (r :: t) := rfl
    have e2 : zTab t = t.length + cnt zRow t := rfl
    rw [e]
    rw [e2] at ih
    simp only [cnt, cR, zRow, List.length_cons] at *
    omega
theorem cMdb_y {m : Tbs} : cnt cTb m ≤ 3 * zMdb m := by
  induction m with
  | nil => simp [cnt]
  | cons t m ih =>
    have h := cTb_y (t := t)
    have e : zMdb (t :: m) = (t :: m).length + cnt zTab (t :: m) := rfl
    have e2 : zMdb m = m.length + cnt zTab m := rfl
    rw [e]
    rw [e2] at ih
    have e3 : cnt cTb (t :: m) = cnt cR t + cnt cTb m := rfl
    have e4 : cnt zTab (t :: m) = zTab t + cnt zTab m := rfl
    rw [e3, e4, List.length_cons]
    omega

set_option maxHeartbeats 2000000 in
set_option maxRecDepth 100000 in
theorem tx4 {s : List Df} {m : Tbs} {o : Opn} (hs : BdSc s := by first | assumption | omega | (simp; done) | (simp; omega)) (hm : BdMdb m := by first | assumption | omega | (simp; done) | (simp; omega)) (ho : BdRow o.row := by first | assumption | omega | (simp; done) | (simp; omega)) : T 4 [aE s, .val true [slE false m], .val true (opC false o)] [vB true] [none, none, none] := by
  refine w_call md [] Tryz.func4 rfl ?_
  obtain ⟨hb1, hb2⟩ := hs
  have ez : zSc s = s.length + cnt zDf s := rfl
  have eo : zOp o = zRow o.row := rfl
  have er : zRow o.row = o.row.length + cnt zVl o.row := rfl
  by_cases hz1 : zSc s ≤ 1048576
  · have hS1 : T 6 [aE s, aI 1048576] [vI (1048576 - (zSc s : Nat))] [none, none] := by
      have := tx6 (l := s) (n := 1048576)
      rwa [if_neg (by omega)] at this
    by_cases hz2 : zSc s + zMdb m ≤ 1048576
    · have hS2 : T 7 [.val true [slE false m], aI (1048576 - (zSc s : Nat))] [vI (1048576 - (zSc s : Nat) - (zMdb m : Nat))] [none, none] := by
        have := tx7 (m := m) (n := 1048576 - (zSc s : Nat))
        rwa [if_neg (by omega)] at this
      by_cases hz3 : zSc s + zMdb m + zOp o ≤ 1048576
      · have hS3 : T 14 [.val true (opC false o), aI (1048576 - (zSc s : Nat) - (zMdb m : Nat))] [vI (1048576 - (zSc s : Nat) - (zMdb m : Nat) - (zOp o : Nat))] [none, none] := by
          have := tx14 (x := o) (n := 1048576 - (zSc s : Nat) - (zMdb m : Nat))
          rwa [if_neg (by omega)] at this
        obtain ⟨ho1, ho2⟩ := OkSc.of (s := s) (by omega)
        obtain ⟨hm1, hm2⟩ := OkMdb.of (m := m) (by omega)
        have hc := cDf_z (s := s)
        have hc2 := cMdb_y (m := m)
        have hgz := apN_z (s := s) (m := m) (o := o)
        obtain ⟨kd, t, row⟩ := o
        have eo2 : zOp ⟨kd, t, row⟩ = zRow row := rfl
        have er2 : zRow row = row.length + cnt zVl row := rfl
        obtain ⟨g, c, hr⟩ : ∃ g c, apN s m ⟨kd, t, row⟩ = (g, c) := ⟨_, _, rfl⟩
        have hSp : T 15 [aE s, .val true [slE false m], .val true [i6 kd, i6 t, slE false row]] [(true, [slE false g]), vI c] [none, none, none] := by
          have h := tx15 (s := s) (m := m) (kd := kd) (t := t) (row := row)
          rwa [hr] at h
        have hIm : T 17 [aE s, .val true [slE false m], .val true [i6 kd, i6 t, slE false row]] [(true, [slE true g]), vI c] [none, none, none] := by
          have h := tx17 (s := s) (m := m) (kd := kd) (t := t) (row := row)
          rwa [hr] at h
        rw [hr] at hgz
        simp only at hgz
        obtain ⟨hg1, hg2⟩ := OkMdb.of (m := g) (by omega)
        have hc3 := cMdb_y (m := g)
        repeat' ((conv => whnf); (first | (apply cx6; refine kl (hS1) ?_) | (apply cx7; refine kl (hS2) ?_) | (apply cx14; refine kl (hS3) ?_) | (apply cx9; refine kl ((t_laws_toDefSF (l := s))) ?_) | (apply cx10; refine kl ((t_laws_toMdbF (m := m))) ?_) | (apply cx16; refine kl ((t_laws_toOpF (x := ⟨kd, t, row⟩))) ?_) | refine k0 ?_ | refine jA fun _ => ?_ | refine jB fun _ => ?_ | refine kC (fun _ => ?_) fun _ => ?_ | refine jS ?_ | refine jI ?_ | refine jD ?_ | refine ⟨snc, _, snr, ?_⟩ | refine ⟨⟨Nat.le_refl _, rfl⟩, [], rfl, ?_⟩ | refine And.intro ⟨rfl, rfl, by decide, rfl⟩ ?_ | refine jP ?_ | refine jO ?_ | refine jX ?_ | refine jb jr ?_ | refine jb ofs ?_ | refine ko jc ?_ | refine ko jp ?_ | refine jM ?_ | refine kr ?_ | refine ko rfl ?_ | refine And.intro (cs_shal _) ?_ | refine And.intro (rfl : List.all _ _ = true) ?_ | refine And.intro ⟨rfl, (rfl : List.all _ _ = true)⟩ ?_ | exact ⟨rfl, rfl⟩ | exact jV | fail))
        repeat' ((conv => whnf); (first | (apply cx6; refine kl (hS1) ?_) | (apply cx7; refine kl (hS2) ?_) | (apply cx14; refine kl (hS3) ?_) | (apply cx15; refine kl (hSp) ?_) | (apply cx17; refine kl (hIm) ?_) | (apply cx19; refine kl (tx19 (l := s) (a := 1)) ?_) | (apply cx20; refine kl (tx20 (m := m) (a := 1 + cnt cDf s)) ?_) | (apply cx21; refine kl (tx21 (x := ⟨kd, t, row⟩) (a := 1 + cnt cDf s + cnt cTb m)) ?_) | (apply cx20; refine kl (tx20 (m := g) (a := 1)) ?_) | (apply cx22; refine kl (tx22 (m := g) (a := 1)) ?_) | (apply cx13; refine kl (tx13 (m := g)) ?_) | (apply cx13; refine kl (tx13 (m := m)) ?_) | (apply cx18; refine kl (tx18 (x := ⟨kd, t, row⟩)) ?_) | (apply cx16; refine kl (tx16 (x := ⟨kd, t, row⟩)) ?_) | refine k0 ?_ | refine jA fun _ => ?_ | refine jB fun _ => ?_ | refine kC (fun _ => ?_) fun _ => ?_ | refine jS ?_ | refine jI ?_ | (apply cx6; refine kl tx6 ?_) | (apply cx7; refine kl tx7 ?_) | (apply cx14; refine kl tx14 ?_) | (apply cx9; refine kl tx9 ?_) | (apply cx10; refine kl tx10 ?_) | (apply cx16; refine kl tx16 ?_) | (apply cx15; refine kl tx15 ?_) | (apply cx17; refine kl tx17 ?_) | (apply cx13; refine kl tx13 ?_) | (apply cx12; refine kl tx12 ?_) | (apply cx18; refine kl tx18 ?_) | (apply cx19; refine kl tx19 ?_) | (apply cx20; refine kl tx20 ?_) | (apply cx21; refine kl tx21 ?_) | (apply cx22; refine kl tx22 ?_) | refine jD ?_ | refine ⟨snc, _, snr, ?_⟩ | refine ⟨⟨Nat.le_refl _, rfl⟩, [], rfl, ?_⟩ | refine And.intro ⟨rfl, rfl, by decide, rfl⟩ ?_ | refine jP ?_ | refine jO ?_ | refine jX ?_ | refine jb jr ?_ | refine jb ofs ?_ | refine ko jc ?_ | refine ko jp ?_ | refine jM ?_ | refine kr ?_ | refine ko rfl ?_ | refine And.intro (cs_shal _) ?_ | refine And.intro (rfl : List.all _ _ = true) ?_ | refine And.intro ⟨rfl, (rfl : List.all _ _ = true)⟩ ?_ | exact ⟨rfl, rfl⟩ | exact jV | fail))
      · have hS3 : T 14 [.val true (opC false o), aI (1048576 - (zSc s : Nat) - (zMdb m : Nat))] [vI (-1)] [none, none] := by
          have := tx14 (x := o) (n := 1048576 - (zSc s : Nat) - (zMdb m : Nat))
          rwa [if_pos (by omega)] at this
        repeat' ((conv => whnf); (first | (apply cx6; refine kl (hS1) ?_) | (apply cx7; refine kl (hS2) ?_) | (apply cx14; refine kl (hS3) ?_) | refine k0 ?_ | refine jA fun _ => ?_ | refine jB fun _ => ?_ | refine kC (fun _ => ?_) fun _ => ?_ | refine jS ?_ | refine jI ?_ | (apply cx6; refine kl tx6 ?_) | (apply cx7; refine kl tx7 ?_) | (apply cx14; refine kl tx14 ?_) | (apply cx9; refine kl tx9 ?_) | (apply cx10; refine kl tx10 ?_) | (apply cx16; refine kl tx16 ?_) | (apply cx15; refine kl tx15 ?_) | (apply cx17; refine kl tx17 ?_) | (apply cx13; refine kl tx13 ?_) | (apply cx12; refine kl tx12 ?_) | (apply cx18; refine kl tx18 ?_) | (apply cx19; refine kl tx19 ?_) | (apply cx20; refine kl tx20 ?_) | (apply cx21; refine kl tx21 ?_) | (apply cx22; refine kl tx22 ?_) | refine jD ?_ | refine ⟨snc, _, snr, ?_⟩ | refine ⟨⟨Nat.le_refl _, rfl⟩, [], rfl, ?_⟩ | refine And.intro ⟨rfl, rfl, by decide, rfl⟩ ?_ | refine jP ?_ | refine jO ?_ | refine jX ?_ | refine jb jr ?_ | refine jb ofs ?_ | refine ko jc ?_ | refine ko jp ?_ | refine jM ?_ | refine kr ?_ | refine ko rfl ?_ | refine And.intro (cs_shal _) ?_ | refine And.intro (rfl : List.all _ _ = true) ?_ | refine And.intro ⟨rfl, (rfl : List.all _ _ = true)⟩ ?_ | exact ⟨rfl, rfl⟩ | exact jV | fail))
    · have hS2 : T 7 [.val true [slE false m], aI (1048576 - (zSc s : Nat))] [vI (-1)] [none, none] := by
        have := tx7 (m := m) (n := 1048576 - (zSc s : Nat))
        rwa [if_pos (by omega)] at this
      repeat' ((conv => whnf); (first | (apply cx6; refine kl (hS1) ?_) | (apply cx7; refine kl (hS2) ?_) | refine k0 ?_ | refine jA fun _ => ?_ | refine jB fun _ => ?_ | refine kC (fun _ => ?_) fun _ => ?_ | refine jS ?_ | refine jI ?_ | (apply cx6; refine kl tx6 ?_) | (apply cx7; refine kl tx7 ?_) | (apply cx14; refine kl tx14 ?_) | (apply cx9; refine kl tx9 ?_) | (apply cx10; refine kl tx10 ?_) | (apply cx16; refine kl tx16 ?_) | (apply cx15; refine kl tx15 ?_) | (apply cx17; refine kl tx17 ?_) | (apply cx13; refine kl tx13 ?_) | (apply cx12; refine kl tx12 ?_) | (apply cx18; refine kl tx18 ?_) | (apply cx19; refine kl tx19 ?_) | (apply cx20; refine kl tx20 ?_) | (apply cx21; refine kl tx21 ?_) | (apply cx22; refine kl tx22 ?_) | refine jD ?_ | refine ⟨snc, _, snr, ?_⟩ | refine ⟨⟨Nat.le_refl _, rfl⟩, [], rfl, ?_⟩ | refine And.intro ⟨rfl, rfl, by decide, rfl⟩ ?_ | refine jP ?_ | refine jO ?_ | refine jX ?_ | refine jb jr ?_ | refine jb ofs ?_ | refine ko jc ?_ | refine ko jp ?_ | refine jM ?_ | refine kr ?_ | refine ko rfl ?_ | refine And.intro (cs_shal _) ?_ | refine And.intro (rfl : List.all _ _ = true) ?_ | refine And.intro ⟨rfl, (rfl : List.all _ _ = true)⟩ ?_ | exact ⟨rfl, rfl⟩ | exact jV | fail))
  · have hS1 : T 6 [aE s, aI 1048576] [vI (-1)] [none, none] := by
      have := tx6 (l := s) (n := 1048576)
      rwa [if_pos (by omega)] at this
    repeat' ((conv => whnf); (first | (apply cx6; refine kl (hS1) ?_) | refine k0 ?_ | refine jA fun _ => ?_ | refine jB fun _ => ?_ | refine kC (fun _ => ?_) fun _ => ?_ | refine jS ?_ | refine jI ?_ | (apply cx6; refine kl tx6 ?_) | (apply cx7; refine kl tx7 ?_) | (apply cx14; refine kl tx14 ?_) | (apply cx9; refine kl tx9 ?_) | (apply cx10; refine kl tx10 ?_) | (apply cx16; refine kl tx16 ?_) | (apply cx15; refine kl tx15 ?_) | (apply cx17; refine kl tx17 ?_) | (apply cx13; refine kl tx13 ?_) | (apply cx12; refine kl tx12 ?_) | (apply cx18; refine kl tx18 ?_) | (apply cx19; refine kl tx19 ?_) | (apply cx20; refine kl tx20 ?_) | (apply cx21; refine kl tx21 ?_) | (apply cx22; refine kl tx22 ?_) | refine jD ?_ | refine ⟨snc, _, snr, ?_⟩ | refine ⟨⟨Nat.le_refl _, rfl⟩, [], rfl, ?_⟩ | refine And.intro ⟨rfl, rfl, by decide, rfl⟩ ?_ | refine jP ?_ | refine jO ?_ | refine jX ?_ | refine jb jr ?_ | refine jb ofs ?_ | refine ko jc ?_ | refine ko jp ?_ | refine jM ?_ | refine kr ?_ | refine ko rfl ?_ | refine And.intro (cs_shal _) ?_ | refine And.intro (rfl : List.all _ _ = true) ?_ | refine And.intro ⟨rfl, (rfl : List.all _ _ = true)⟩ ?_ | exact ⟨rfl, rfl⟩ | exact jV | fail))

theorem cx4 {P : Program} {X : FuncId → List Arg → List (Bool × List Cell) → List (Option (List Cell)) → Prop} {a : List Arg} {Q : List (Bool × List Cell) → List (Option (List Cell)) → Prop} (h : ∃ b vals outs, a = b ∧ D P X (.call 4 b vals outs) ∧ Q vals outs) : CallS P X 4 a Q := ⟨h⟩

end Go.Proofs.YtopnaijeicknoaaGreatDoor
