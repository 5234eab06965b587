/- Functions of the program, each with what it gives back. -/
import Derived.Test.YtkimclpagokeaaaGreatDoorKe
import Derived.Test.YtkimclpagokeaaaGreatDoorChecked
import Derived.IntWalk
import Derived.Test.YtkimclpagokeaaaGreatDoorWn
import Derived.Test.YtkimclpagokeaaaGreatDoorMm
namespace Go.Proofs.YtkimclpagokeaaaGreatDoor
open Go Go.RowKit Go.IntWalk
open Enc (sz cs)
attribute [local irreducible] IntKind.wrap

attribute [local irreducible] fbN cdN ppN pkR raN
theorem raN_len {s : List Df} {m : Tbs} {t : Int} {key : List Vl} (hm : zMdb m ≤ 2000000) : (raN s m t key).1.length ≤ 2000000 := by
  obtain ⟨z1, z2⟩ := zMdb_b hm
  by_cases h : fbN s = -1 ∧ 0 ≤ t ∧ t.toNat < s.length ∧ t.toNat < m.length
  · obtain ⟨h1, h2, h3, h4⟩ := h
    obtain ⟨k, rfl⟩ : ∃ k : Nat, t = k := ⟨t.toNat, by omega⟩
    simp only [Int.toNat_natCast] at h3 h4
    by_cases hr : 0 ≤ atN (ppN s[k]) m[k] key
    · obtain ⟨j, hj⟩ : ∃ j : Nat, atN (ppN s[k]) m[k] key = j := ⟨(atN (ppN s[k]) m[k] key).toNat, by omega⟩
      rw [raN_y h1 h3 h4 hj (atN_lt hj)]
      exact (z2 k h4).2 j (atN_lt hj)
    · rw [raN_z h1 h3 h4 hr]; exact Nat.zero_le _
  · rw [raN_n h]; exact Nat.zero_le _
theorem cTb_z {t : List (List Vl)} : cnt cR t ≤ 3 * zTab t := by
  induction t with
  | nil => simp [cnt]
  | cons r t ih =>
    have e : zTab (r :: t) = (r :: t).length + cnt zRow (r :: t) := rfl
    have e2 : zTab t = t.length + cnt zRow t := rfl
    rw [e]
    rw [e2] at ih
    simp only [cnt, cR, zRow, List.length_cons] at *
    omega
theorem cMdb_z {m : Tbs} : cnt cTb m ≤ 3 * zMdb m := by
  induction m with
  | nil => simp [cnt]
  | cons t m ih =>
    have h := cTb_z (t := t)
    have e : zMdb (t :: m) = (t :: m).length + cnt zTab (t :: m) := rfl
    have e2 : zMdb m = m.length + cnt zTab m := rfl
    rw [e]
    rw [e2] at ih
    have e3 : cnt cTb (t :: m) = cnt cR t + cnt cTb m := rfl
    have e4 : cnt zTab (t :: m) = zTab t + cnt zTab m := rfl
    rw [e3, e4, List.length_cons]
    omega

set_option maxHeartbeats 2000000 in
set_option maxRecDepth 100000 in
theorem tx3 {s : List Df} {m : Tbs} {t : Int} {key : List Vl} (hs : BdSc s := by first | assumption | omega | (simp; done) | (simp; omega)) (hm : BdMdb m := by first | assumption | omega | (simp; done) | (simp; omega)) (hk : BdRow key := by first | assumption | omega | (simp; done) | (simp; omega)) : T 3 [aE s, .val true [slE false m], aI t, aE key] [vB true] [none, none, none, none] := by
  refine w_call md [] Tryz.func3 rfl ?_
  obtain ⟨hb1, hb2⟩ := hs
  obtain ⟨hk1, hk2⟩ := hk
  have ez : zSc s = s.length + cnt zDf s := rfl
  have ek : zRow key = key.length + cnt zVl key := rfl
  by_cases hz1 : zSc s ≤ 1048576
  · have hS1 : T 4 [aE s, aI 1048576] [vI (1048576 - (zSc s : Nat))] [none, none] := by
      have := tx4 (l := s) (n := 1048576)
      rwa [if_neg (by omega)] at this
    by_cases hz2 : zSc s + zMdb m ≤ 1048576
    · have hS2 : T 5 [.val true [slE false m], aI (1048576 - (zSc s : Nat))] [vI (1048576 - (zSc s : Nat) - (zMdb m : Nat))] [none, none] := by
        have := tx5 (m := m) (n := 1048576 - (zSc s : Nat))
        rwa [if_neg (by omega)] at this
      by_cases hz3 : zSc s + zMdb m + zRow key ≤ 1048576
      · have hS3 : T 6 [aE key, aI (1048576 - (zSc s : Nat) - (zMdb m : Nat))] [vI (1048576 - (zSc s : Nat) - (zMdb m : Nat) - (zRow key : Nat))] [none, none] := by
          have := tx6 (l := key) (n := 1048576 - (zSc s : Nat) - (zMdb m : Nat))
          rwa [if_neg (by omega)] at this
        obtain ⟨ho1, ho2⟩ := OkSc.of (s := s) (by omega)
        obtain ⟨hm1, hm2⟩ := OkMdb.of (m := m) (by omega)
        have hc := cDf_z (s := s)
        have hc2 := cMdb_z (m := m)
        have hgl := raN_len (s := s) (m := m) (t := t) (key := key) (by omega)
        obtain ⟨g, b, hr⟩ : ∃ g b, raN s m t key = (g, b) := ⟨_, _, rfl⟩
        have hSp : T 7 [aE s, .val true [slE false m], aI t, aE key] [vE g, vB b] [none, none, none, none] := by
          have h := tx7 (s := s) (m := m) (t := t) (key := key)
          rwa [hr] at h
        have hIm : T 11 [aE s, .val true [slE false m], aI t, aE key] [vE g, vB b] [none, none, none, none] := by
          have h := tx11 (s := s) (m := m) (t := t) (key := key)
          rwa [hr] at h
        rw [hr] at hgl
        simp only at hgl
        cases b
        · repeat' ((conv => whnf); (first | (apply cx4; refine kl (hS1) ?_) | (apply cx5; refine kl (hS2) ?_) | (apply cx6; refine kl (hS3) ?_) | (apply cx7; refine kl (hSp) ?_) | (apply cx11; refine kl (hIm) ?_) | (apply cx15; refine kl (tx15 (l := s) (a := 1)) ?_) | (apply cx16; refine kl (tx16 (m := m) (a := 1 + cnt cDf s)) ?_) | (apply cx17; refine kl (tx17 (l := key) (a := 1 + cnt cDf s + cnt cTb m)) ?_) | (apply cx17; refine kl (tx17 (l := g) (a := 1)) ?_) | (apply cx18; refine kl (tx18 (l := g) (a := 1)) ?_) | refine k0 ?_ | refine jA fun _ => ?_ | refine jB fun _ => ?_ | refine kC (fun _ => ?_) fun _ => ?_ | refine jS ?_ | refine jI ?_ | (apply cx4; refine kl tx4 ?_) | (apply cx5; refine kl tx5 ?_) | (apply cx6; refine kl tx6 ?_) | (apply cx8; refine kl tx8 ?_) | (apply cx9; refine kl tx9 ?_) | (apply cx10; refine kl tx10 ?_) | (apply cx7; refine kl tx7 ?_) | (apply cx11; refine kl tx11 ?_) | (apply cx12; refine kl tx12 ?_) | (apply cx13; refine kl tx13 ?_) | (apply cx14; refine kl tx14 ?_) | (apply cx15; refine kl tx15 ?_) | (apply cx16; refine kl tx16 ?_) | (apply cx17; refine kl tx17 ?_) | (apply cx18; refine kl tx18 ?_) | refine jD ?_ | refine ⟨snc, _, snr, ?_⟩ | refine ⟨⟨Nat.le_refl _, rfl⟩, [], rfl, ?_⟩ | refine And.intro ⟨rfl, rfl, by decide, rfl⟩ ?_ | refine jP ?_ | refine jO ?_ | refine jX ?_ | refine jb jr ?_ | refine jb ofs ?_ | refine ko jc ?_ | refine ko jp ?_ | refine jM ?_ | refine kr ?_ | refine ko rfl ?_ | refine And.intro (cs_shal _) ?_ | refine And.intro (rfl : List.all _ _ = true) ?_ | refine And.intro ⟨rfl, (rfl : List.all _ _ = true)⟩ ?_ | exact ⟨rfl, rfl⟩ | exact jV | fail))
        · repeat' ((conv => whnf); (first | (apply cx4; refine kl (hS1) ?_) | (apply cx5; refine kl (hS2) ?_) | (apply cx6; refine kl (hS3) ?_) | (apply cx7; refine kl (hSp) ?_) | (apply cx11; refine kl (hIm) ?_) | (apply cx15; refine kl (tx15 (l := s) (a := 1)) ?_) | (apply cx16; refine kl (tx16 (m := m) (a := 1 + cnt cDf s)) ?_) | (apply cx17; refine kl (tx17 (l := key) (a := 1 + cnt cDf s + cnt cTb m)) ?_) | (apply cx17; refine kl (tx17 (l := g) (a := 1)) ?_) | (apply cx18; refine kl (tx18 (l := g) (a := 1)) ?_) | refine k0 ?_ | refine jA fun _ => ?_ | refine jB fun _ => ?_ | refine kC (fun _ => ?_) fun _ => ?_ | refine jS ?_ | refine jI ?_ | (apply cx4; refine kl tx4 ?_) | (apply cx5; refine kl tx5 ?_) | (apply cx6; refine kl tx6 ?_) | (apply cx8; refine kl tx8 ?_) | (apply cx9; refine kl tx9 ?_) | (apply cx10; refine kl tx10 ?_) | (apply cx7; refine kl tx7 ?_) | (apply cx11; refine kl tx11 ?_) | (apply cx12; refine kl tx12 ?_) | (apply cx13; refine kl tx13 ?_) | (apply cx14; refine kl tx14 ?_) | (apply cx15; refine kl tx15 ?_) | (apply cx16; refine kl tx16 ?_) | (apply cx17; refine kl tx17 ?_) | (apply cx18; refine kl tx18 ?_) | refine jD ?_ | refine ⟨snc, _, snr, ?_⟩ | refine ⟨⟨Nat.le_refl _, rfl⟩, [], rfl, ?_⟩ | refine And.intro ⟨rfl, rfl, by decide, rfl⟩ ?_ | refine jP ?_ | refine jO ?_ | refine jX ?_ | refine jb jr ?_ | refine jb ofs ?_ | refine ko jc ?_ | refine ko jp ?_ | refine jM ?_ | refine kr ?_ | refine ko rfl ?_ | refine And.intro (cs_shal _) ?_ | refine And.intro (rfl : List.all _ _ = true) ?_ | refine And.intro ⟨rfl, (rfl : List.all _ _ = true)⟩ ?_ | exact ⟨rfl, rfl⟩ | exact jV | fail))
      · have hS3 : T 6 [aE key, aI (1048576 - (zSc s : Nat) - (zMdb m : Nat))] [vI (-1)] [none, none] := by
          have := tx6 (l := key) (n := 1048576 - (zSc s : Nat) - (zMdb m : Nat))
          rwa [if_pos (by omega)] at this
        repeat' ((conv => whnf); (first | (apply cx4; refine kl (hS1) ?_) | (apply cx5; refine kl (hS2) ?_) | (apply cx6; refine kl (hS3) ?_) | refine k0 ?_ | refine jA fun _ => ?_ | refine jB fun _ => ?_ | refine kC (fun _ => ?_) fun _ => ?_ | refine jS ?_ | refine jI ?_ | (apply cx4; refine kl tx4 ?_) | (apply cx5; refine kl tx5 ?_) | (apply cx6; refine kl tx6 ?_) | (apply cx8; refine kl tx8 ?_) | (apply cx9; refine kl tx9 ?_) | (apply cx10; refine kl tx10 ?_) | (apply cx7; refine kl tx7 ?_) | (apply cx11; refine kl tx11 ?_) | (apply cx12; refine kl tx12 ?_) | (apply cx13; refine kl tx13 ?_) | (apply cx14; refine kl tx14 ?_) | (apply cx15; refine kl tx15 ?_) | (apply cx16; refine kl tx16 ?_) | (apply cx17; refine kl tx17 ?_) | (apply cx18; refine kl tx18 ?_) | refine jD ?_ | refine ⟨snc, _, snr, ?_⟩ | refine ⟨⟨Nat.le_refl _, rfl⟩, [], rfl, ?_⟩ | refine And.intro ⟨rfl, rfl, by decide, rfl⟩ ?_ | refine jP ?_ | refine jO ?_ | refine jX ?_ | refine jb jr ?_ | refine jb ofs ?_ | refine ko jc ?_ | refine ko jp ?_ | refine jM ?_ | refine kr ?_ | refine ko rfl ?_ | refine And.intro (cs_shal _) ?_ | refine And.intro (rfl : List.all _ _ = true) ?_ | refine And.intro ⟨rfl, (rfl : List.all _ _ = true)⟩ ?_ | exact ⟨rfl, rfl⟩ | exact jV | fail))
    · have hS2 : T 5 [.val true [slE false m], aI (1048576 - (zSc s : Nat))] [vI (-1)] [none, none] := by
        have := tx5 (m := m) (n := 1048576 - (zSc s : Nat))
        rwa [if_pos (by omega)] at this
      repeat' ((conv => whnf); (first | (apply cx4; refine kl (hS1) ?_) | (apply cx5; refine kl (hS2) ?_) | refine k0 ?_ | refine jA fun _ => ?_ | refine jB fun _ => ?_ | refine kC (fun _ => ?_) fun _ => ?_ | refine jS ?_ | refine jI ?_ | (apply cx4; refine kl tx4 ?_) | (apply cx5; refine kl tx5 ?_) | (apply cx6; refine kl tx6 ?_) | (apply cx8; refine kl tx8 ?_) | (apply cx9; refine kl tx9 ?_) | (apply cx10; refine kl tx10 ?_) | (apply cx7; refine kl tx7 ?_) | (apply cx11; refine kl tx11 ?_) | (apply cx12; refine kl tx12 ?_) | (apply cx13; refine kl tx13 ?_) | (apply cx14; refine kl tx14 ?_) | (apply cx15; refine kl tx15 ?_) | (apply cx16; refine kl tx16 ?_) | (apply cx17; refine kl tx17 ?_) | (apply cx18; refine kl tx18 ?_) | refine jD ?_ | refine ⟨snc, _, snr, ?_⟩ | refine ⟨⟨Nat.le_refl _, rfl⟩, [], rfl, ?_⟩ | refine And.intro ⟨rfl, rfl, by decide, rfl⟩ ?_ | refine jP ?_ | refine jO ?_ | refine jX ?_ | refine jb jr ?_ | refine jb ofs ?_ | refine ko jc ?_ | refine ko jp ?_ | refine jM ?_ | refine kr ?_ | refine ko rfl ?_ | refine And.intro (cs_shal _) ?_ | refine And.intro (rfl : List.all _ _ = true) ?_ | refine And.intro ⟨rfl, (rfl : List.all _ _ = true)⟩ ?_ | exact ⟨rfl, rfl⟩ | exact jV | fail))
  · have hS1 : T 4 [aE s, aI 1048576] [vI (-1)] [none, none] := by
      have := tx4 (l := s) (n := 1048576)
      rwa [if_pos (by omega)] at this
    repeat' ((conv => whnf); (first | (apply cx4; refine kl (hS1) ?_) | refine k0 ?_ | refine jA fun _ => ?_ | refine jB fun _ => ?_ | refine kC (fun _ => ?_) fun _ => ?_ | refine jS ?_ | refine jI ?_ | (apply cx4; refine kl tx4 ?_) | (apply cx5; refine kl tx5 ?_) | (apply cx6; refine kl tx6 ?_) | (apply cx8; refine kl tx8 ?_) | (apply cx9; refine kl tx9 ?_) | (apply cx10; refine kl tx10 ?_) | (apply cx7; refine kl tx7 ?_) | (apply cx11; refine kl tx11 ?_) | (apply cx12; refine kl tx12 ?_) | (apply cx13; refine kl tx13 ?_) | (apply cx14; refine kl tx14 ?_) | (apply cx15; refine kl tx15 ?_) | (apply cx16; refine kl tx16 ?_) | (apply cx17; refine kl tx17 ?_) | (apply cx18; refine kl tx18 ?_) | refine jD ?_ | refine ⟨snc, _, snr, ?_⟩ | refine ⟨⟨Nat.le_refl _, rfl⟩, [], rfl, ?_⟩ | refine And.intro ⟨rfl, rfl, by decide, rfl⟩ ?_ | refine jP ?_ | refine jO ?_ | refine jX ?_ | refine jb jr ?_ | refine jb ofs ?_ | refine ko jc ?_ | refine ko jp ?_ | refine jM ?_ | refine kr ?_ | refine ko rfl ?_ | refine And.intro (cs_shal _) ?_ | refine And.intro (rfl : List.all _ _ = true) ?_ | refine And.intro ⟨rfl, (rfl : List.all _ _ = true)⟩ ?_ | exact ⟨rfl, rfl⟩ | exact jV | fail))

theorem cx3 {P : Program} {X : FuncId → List Arg → List (Bool × List Cell) → List (Option (List Cell)) → Prop} {a : List Arg} {Q : List (Bool × List Cell) → List (Option (List Cell)) → Prop} (h : ∃ b vals outs, a = b ∧ D P X (.call 3 b vals outs) ∧ Q vals outs) : CallS P X 3 a Q := ⟨h⟩

end Go.Proofs.YtkimclpagokeaaaGreatDoor
