/- Functions of the program, each with what it gives back. -/
import Derived.Test.YtopnaijeicknoaaGreatDoorKe
import Derived.Test.YtopnaijeicknoaaGreatDoorChecked
import Derived.IntWalk
import Derived.Test.YtopnaijeicknoaaGreatDoorN1
import Derived.Test.YtopnaijeicknoaaGreatDoorWn
import Derived.Test.YtopnaijeicknoaaGreatDoorN2
namespace Go.Proofs.YtopnaijeicknoaaGreatDoor
open Go Go.RowKit Go.IntWalk
open Enc (sz cs)
attribute [local irreducible] IntKind.wrap

attribute [local irreducible] fbN cdN moI moS apN
theorem cTb_y {t : List (List Vl)} : cnt cR t ≤ 3 * zTab t := by
  induction t with
  | nil => simp [cnt]
  | cons r t ih =>
    have e : zTab (r :: t) = (r :: t).length + cnt zRow (r :: t) := rfl
    have e2 : zTab t = t.length + cnt zRow t := rfl
    rw [e]
    rw [e2] at ih
    simp only [cnt, cR, zRow, List.length_cons] at *
    omega
theorem cMdb_y {m : Tbs} : cnt cTb m ≤ 3 * zMdb m := by
  induction m with
  | nil => simp [cnt]
  | cons t m ih =>
    have h := cTb_y (t := t)
    have e : zMdb (t :: m) = (t :: m).length + cnt zTab (t :: m) := rfl
    have e2 : zMdb m = m.length + cnt zTab m := rfl
    rw [e]
    rw [e2] at ih
    have e3 : cnt cTb (t :: m) = cnt cR t + cnt cTb m := rfl
    have e4 : cnt zTab (t :: m) = zTab t + cnt zTab m := rfl
    rw [e3, e4, List.length_cons]
    omega
theorem baN_z {s : List Df} {m : Tbs} {l : List Opn} : zMdb (baN s m l).1 ≤ zMdb m + cbR l + l.length := by
  unfold baN
  split
  · simp only; omega
  · split
    · have h := baM_z (s := s) (m := m) (l := l) (i := l.length) (Nat.le_refl _)
      have e : cbR l = cnt (fun o : Opn => zRow o.row) l := rfl
      rw [List.take_length] at h
      simp only; omega
    · simp only; omega
theorem cOp_z : ∀ {l : List Opn}, cnt cOp l ≤ 3 * (l.length + cnt zOp l)
  | [] => by simp [cnt]
  | x :: l => by
    have ih := cOp_z (l := l)
    have e : cnt cOp (x :: l) = cOp x + cnt cOp l := rfl
    have e2 : cnt zOp (x :: l) = zOp x + cnt zOp l := rfl
    have e3 : zOp x = x.row.length + cnt zVl x.row := rfl
    have e4 : cOp x = 2 + 3 * x.row.length := rfl
    rw [e, e2, List.length_cons]
    omega
attribute [local irreducible] baN

set_option maxHeartbeats 2000000 in
set_option maxRecDepth 100000 in
theorem tx5 {s : List Df} {m : Tbs} {l : List Opn} (hs : BdSc s := by first | assumption | omega | (simp; done) | (simp; omega)) (hm : BdMdb m := by first | assumption | omega | (simp; done) | (simp; omega)) (hl : l.length ≤ 100000000000000 := by first | assumption | omega | (simp; done) | (simp; omega)) (hel : ∀ x ∈ l, BdRow x.row := by first | assumption | omega | (simp; done) | (simp; omega)) : T 5 [aE s, .val true [slE false m], aE l] [vB true] [none, none, none] := by
  refine w_call md [] Tryz.func5 rfl ?_
  obtain ⟨hb1, hb2⟩ := hs
  have ez : zSc s = s.length + cnt zDf s := rfl
  have eb : cbR l = cnt zOp l := rfl
  by_cases hz1 : zSc s ≤ 1048576
  · have hS1 : T 6 [aE s, aI 1048576] [vI (1048576 - (zSc s : Nat))] [none, none] := by
      have := tx6 (l := s) (n := 1048576)
      rwa [if_neg (by omega)] at this
    by_cases hz2 : zSc s + zMdb m ≤ 1048576
    · have hS2 : T 7 [.val true [slE false m], aI (1048576 - (zSc s : Nat))] [vI (1048576 - (zSc s : Nat) - (zMdb m : Nat))] [none, none] := by
        have := tx7 (m := m) (n := 1048576 - (zSc s : Nat))
        rwa [if_neg (by omega)] at this
      by_cases hz3 : zSc s + zMdb m + (l.length + cnt zOp l) ≤ 1048576
      · have hS3 : T 23 [aE l, aI (1048576 - (zSc s : Nat) - (zMdb m : Nat))] [vI (1048576 - (zSc s : Nat) - (zMdb m : Nat) - (l.length + cnt zOp l : Nat))] [none, none] := by
          have := tx23 (l := l) (n := 1048576 - (zSc s : Nat) - (zMdb m : Nat))
          rwa [if_neg (by omega)] at this
        obtain ⟨ho1, ho2⟩ := OkSc.of (s := s) (by omega)
        obtain ⟨hm1, hm2⟩ := OkMdb.of (m := m) (by omega)
        have hl2 : ∀ x ∈ l, x.row.length ≤ 10000000 := fun x hx => by
          have h1 := cnt_mem (c := zOp) hx
          have e3 : zOp x = x.row.length + cnt zVl x.row := rfl
          omega
        have hl3 : ∀ x ∈ l, x.row.length ≤ 1000000000000 := fun x hx => Nat.le_trans (hl2 x hx) (by decide)
        have hc := cDf_z (s := s)
        have hc2 := cMdb_y (m := m)
        have hc4 := cOp_z (l := l)
        have hgz := baN_z (s := s) (m := m) (l := l)
        obtain ⟨g, c, i, hr⟩ : ∃ g c i, baN s m l = (g, c, i) := ⟨_, _, _, rfl⟩
        have hSp : T 24 [aE s, .val true [slE false m], aE l] [(true, [slE false g]), vI c, vI i] [none, none, none] := by
          have h := tx24 (s := s) (m := m) (l := l)
          rwa [hr] at h
        have hIm : T 26 [aE s, .val true [slE false m], aE l] [(true, [slE true g]), vI c, vI i] [none, none, none] := by
          have h := tx26 (s := s) (m := m) (l := l)
          rwa [hr] at h
        rw [hr] at hgz
        simp only at hgz
        obtain ⟨hg1, hg2⟩ := OkMdb.of (m := g) (by omega)
        have hc3 := cMdb_y (m := g)
        repeat' ((conv => whnf); (first | (apply cx6; refine kl (hS1) ?_) | (apply cx7; refine kl (hS2) ?_) | (apply cx23; refine kl (hS3) ?_) | (apply cx9; refine kl ((t_laws_toDefSF (l := s))) ?_) | (apply cx10; refine kl ((t_laws_toMdbF (m := m))) ?_) | (apply cx25; refine kl ((t_laws_toOpSF (l := l))) ?_) | refine k0 ?_ | refine jA fun _ => ?_ | refine jB fun _ => ?_ | refine kC (fun _ => ?_) fun _ => ?_ | refine jS ?_ | refine jI ?_ | refine jD ?_ | refine ⟨snc, _, snr, ?_⟩ | refine ⟨⟨Nat.le_refl _, rfl⟩, [], rfl, ?_⟩ | refine And.intro ⟨rfl, rfl, by decide, rfl⟩ ?_ | refine jP ?_ | refine jO ?_ | refine jX ?_ | refine jb jr ?_ | refine jb ofs ?_ | refine ko jc ?_ | refine ko jp ?_ | refine jM ?_ | refine kr ?_ | refine ko rfl ?_ | refine And.intro (cs_shal _) ?_ | refine And.intro (rfl : List.all _ _ = true) ?_ | refine And.intro ⟨rfl, (rfl : List.all _ _ = true)⟩ ?_ | exact ⟨rfl, rfl⟩ | exact jV | fail))
        repeat' ((conv => whnf); (first | (apply cx6; refine kl (hS1) ?_) | (apply cx7; refine kl (hS2) ?_) | (apply cx23; refine kl (hS3) ?_) | (apply cx24; refine kl (hSp) ?_) | (apply cx26; refine kl (hIm) ?_) | (apply cx19; refine kl (tx19 (l := s) (a := 1)) ?_) | (apply cx20; refine kl (tx20 (m := m) (a := 1 + cnt cDf s)) ?_) | (apply cx28; refine kl (tx28 (l := l) (a := 1 + cnt cDf s + cnt cTb m)) ?_) | (apply cx20; refine kl (tx20 (m := g) (a := 1)) ?_) | (apply cx22; refine kl (tx22 (m := g) (a := 1)) ?_) | (apply cx13; refine kl (tx13 (m := g)) ?_) | (apply cx13; refine kl (tx13 (m := m)) ?_) | (apply cx27; refine kl (tx27 (l := l)) ?_) | (apply cx25; refine kl (tx25 (l := l)) ?_) | refine k0 ?_ | refine jA fun _ => ?_ | refine jB fun _ => ?_ | refine kC (fun _ => ?_) fun _ => ?_ | refine jS ?_ | refine jI ?_ | (apply cx6; refine kl tx6 ?_) | (apply cx7; refine kl tx7 ?_) | (apply cx23; refine kl tx23 ?_) | (apply cx9; refine kl tx9 ?_) | (apply cx10; refine kl tx10 ?_) | (apply cx25; refine kl tx25 ?_) | (apply cx24; refine kl tx24 ?_) | (apply cx26; refine kl tx26 ?_) | (apply cx13; refine kl tx13 ?_) | (apply cx12; refine kl tx12 ?_) | (apply cx27; refine kl tx27 ?_) | (apply cx19; refine kl tx19 ?_) | (apply cx20; refine kl tx20 ?_) | (apply cx28; refine kl tx28 ?_) | (apply cx22; refine kl tx22 ?_) | refine jD ?_ | refine ⟨snc, _, snr, ?_⟩ | refine ⟨⟨Nat.le_refl _, rfl⟩, [], rfl, ?_⟩ | refine And.intro ⟨rfl, rfl, by decide, rfl⟩ ?_ | refine jP ?_ | refine jO ?_ | refine jX ?_ | refine jb jr ?_ | refine jb ofs ?_ | refine ko jc ?_ | refine ko jp ?_ | refine jM ?_ | refine kr ?_ | refine ko rfl ?_ | refine And.intro (cs_shal _) ?_ | refine And.intro (rfl : List.all _ _ = true) ?_ | refine And.intro ⟨rfl, (rfl : List.all _ _ = true)⟩ ?_ | exact ⟨rfl, rfl⟩ | exact jV | fail))
      · have hS3 : T 23 [aE l, aI (1048576 - (zSc s : Nat) - (zMdb m : Nat))] [vI (-1)] [none, none] := by
          have := tx23 (l := l) (n := 1048576 - (zSc s : Nat) - (zMdb m : Nat))
          rwa [if_pos (by omega)] at this
        repeat' ((conv => whnf); (first | (apply cx6; refine kl (hS1) ?_) | (apply cx7; refine kl (hS2) ?_) | (apply cx23; refine kl (hS3) ?_) | refine k0 ?_ | refine jA fun _ => ?_ | refine jB fun _ => ?_ | refine kC (fun _ => ?_) fun _ => ?_ | refine jS ?_ | refine jI ?_ | (apply cx6; refine kl tx6 ?_) | (apply cx7; refine kl tx7 ?_) | (apply cx23; refine kl tx23 ?_) | (apply cx9; refine kl tx9 ?_) | (apply cx10; refine kl tx10 ?_) | (apply cx25; refine kl tx25 ?_) | (apply cx24; refine kl tx24 ?_) | (apply cx26; refine kl tx26 ?_) | (apply cx13; refine kl tx13 ?_) | (apply cx12; refine kl tx12 ?_) | (apply cx27; refine kl tx27 ?_) | (apply cx19; refine kl tx19 ?_) | (apply cx20; refine kl tx20 ?_) | (apply cx28; refine kl tx28 ?_) | (apply cx22; refine kl tx22 ?_) | refine jD ?_ | refine ⟨snc, _, snr, ?_⟩ | refine ⟨⟨Nat.le_refl _, rfl⟩, [], rfl, ?_⟩ | refine And.intro ⟨rfl, rfl, by decide, rfl⟩ ?_ | refine jP ?_ | refine jO ?_ | refine jX ?_ | refine jb jr ?_ | refine jb ofs ?_ | refine ko jc ?_ | refine ko jp ?_ | refine jM ?_ | refine kr ?_ | refine ko rfl ?_ | refine And.intro (cs_shal _) ?_ | refine And.intro (rfl : List.all _ _ = true) ?_ | refine And.intro ⟨rfl, (rfl : List.all _ _ = true)⟩ ?_ | exact ⟨rfl, rfl⟩ | exact jV | fail))
    · have hS2 : T 7 [.val true [slE false m], aI (1048576 - (zSc s : Nat))] [vI (-1)] [none, none] := by
        have := tx7 (m := m) (n := 1048576 - (zSc s : Nat))
        rwa [if_pos (by omega)] at this
      repeat' ((conv => whnf); (first | (apply cx6; refine kl (hS1) ?_) | (apply cx7; refine kl (hS2) ?_) | refine k0 ?_ | refine jA fun _ => ?_ | refine jB fun _ => ?_ | refine kC (fun _ => ?_) fun _ => ?_ | refine jS ?_ | refine jI ?_ | (apply cx6; refine kl tx6 ?_) | (apply cx7; refine kl tx7 ?_) | (apply cx23; refine kl tx23 ?_) | (apply cx9; refine kl tx9 ?_) | (apply cx10; refine kl tx10 ?_) | (apply cx25; refine kl tx25 ?_) | (apply cx24; refine kl tx24 ?_) | (apply cx26; refine kl tx26 ?_) | (apply cx13; refine kl tx13 ?_) | (apply cx12; refine kl tx12 ?_) | (apply cx27; refine kl tx27 ?_) | (apply cx19; refine kl tx19 ?_) | (apply cx20; refine kl tx20 ?_) | (apply cx28; refine kl tx28 ?_) | (apply cx22; refine kl tx22 ?_) | refine jD ?_ | refine ⟨snc, _, snr, ?_⟩ | refine ⟨⟨Nat.le_refl _, rfl⟩, [], rfl, ?_⟩ | refine And.intro ⟨rfl, rfl, by decide, rfl⟩ ?_ | refine jP ?_ | refine jO ?_ | refine jX ?_ | refine jb jr ?_ | refine jb ofs ?_ | refine ko jc ?_ | refine ko jp ?_ | refine jM ?_ | refine kr ?_ | refine ko rfl ?_ | refine And.intro (cs_shal _) ?_ | refine And.intro (rfl : List.all _ _ = true) ?_ | refine And.intro ⟨rfl, (rfl : List.all _ _ = true)⟩ ?_ | exact ⟨rfl, rfl⟩ | exact jV | fail))
  · have hS1 : T 6 [aE s, aI 1048576] [vI (-1)] [none, none] := by
      have := tx6 (l := s) (n := 1048576)
      rwa [if_pos (by omega)] at this
    repeat' ((conv => whnf); (first | (apply cx6; refine kl (hS1) ?_) | refine k0 ?_ | refine jA fun _ => ?_ | refine jB fun _ => ?_ | refine kC (fun _ => ?_) fun _ => ?_ | refine jS ?_ | refine jI ?_ | (apply cx6; refine kl tx6 ?_) | (apply cx7; refine kl tx7 ?_) | (apply cx23; refine kl tx23 ?_) | (apply cx9; refine kl tx9 ?_) | (apply cx10; refine kl tx10 ?_) | (apply cx25; refine kl tx25 ?_) | (apply cx24; refine kl tx24 ?_) | (apply cx26; refine kl tx26 ?_) | (apply cx13; refine kl tx13 ?_) | (apply cx12; refine kl tx12 ?_) | (apply cx27; refine kl tx27 ?_) | (apply cx19; refine kl tx19 ?_) | (apply cx20; refine kl tx20 ?_) | (apply cx28; refine kl tx28 ?_) | (apply cx22; refine kl tx22 ?_) | refine jD ?_ | refine ⟨snc, _, snr, ?_⟩ | refine ⟨⟨Nat.le_refl _, rfl⟩, [], rfl, ?_⟩ | refine And.intro ⟨rfl, rfl, by decide, rfl⟩ ?_ | refine jP ?_ | refine jO ?_ | refine jX ?_ | refine jb jr ?_ | refine jb ofs ?_ | refine ko jc ?_ | refine ko jp ?_ | refine jM ?_ | refine kr ?_ | refine ko rfl ?_ | refine And.intro (cs_shal _) ?_ | refine And.intro (rfl : List.all _ _ = true) ?_ | refine And.intro ⟨rfl, (rfl : List.all _ _ = true)⟩ ?_ | exact ⟨rfl, rfl⟩ | exact jV | fail))

theorem cx5 {P : Program} {X : FuncId → List Arg → List (Bool × List Cell) → List (Option (List Cell)) → Prop} {a : List Arg} {Q : List (Bool × List Cell) → List (Option (List Cell)) → Prop} (h : ∃ b vals outs, a = b ∧ D P X (.call 5 b vals outs) ∧ Q vals outs) : CallS P X 5 a Q := ⟨h⟩

end Go.Proofs.YtopnaijeicknoaaGreatDoor
