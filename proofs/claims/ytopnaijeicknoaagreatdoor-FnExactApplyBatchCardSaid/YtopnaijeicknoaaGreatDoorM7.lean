/- Functions of the program, each with what it gives back. -/
import Derived.Test.YtopnaijeicknoaaGreatDoorKe
import Derived.Test.YtopnaijeicknoaaGreatDoorChecked
import Derived.IntWalk
import Derived.Test.YtopnaijeicknoaaGreatDoorM6
namespace Go.Proofs.YtopnaijeicknoaaGreatDoor
open Go Go.RowKit Go.IntWalk
open Enc (sz cs)
attribute [local irreducible] IntKind.wrap

/-! ### An operation -/
attribute [local irreducible] pkR ppN bOf fbN cdN rpN atN tkN moS moI clN2 lkK apN

set_option maxHeartbeats 2000000 in
set_option maxRecDepth 100000 in
theorem tx17 {s : List Df} {m : Tbs} {kd t : Int} {row : List Vl} (hs : zSc s ≤ 2000000 := by first | assumption | omega | (simp; done) | (simp; omega)) (hm : zMdb m + zRow row ≤ 1900000 := by first | assumption | omega | (simp; done) | (simp; omega)) : T 17 [aE s, .val true [slE false m], .val true [i6 kd, i6 t, slE false row]] [(true, [slE true (apN s m ⟨kd, t, row⟩).1]), vI (apN s m ⟨kd, t, row⟩).2] [none, none, none] := by
  refine w_call md [[1], []] Tryz.func17 rfl ?_
  have hm2 : zMdb m ≤ 2000000 := by omega
  have hz := apN_z (s := s) (m := m) (o := ⟨kd, t, row⟩)
  obtain ⟨M, c, hr⟩ : ∃ M c, apN s m ⟨kd, t, row⟩ = (M, c) := ⟨_, _, rfl⟩
  rw [hr] at hz ⊢
  simp only at hz
  cases hmo : moS s m with
  | false =>
    rw [apN_1 (fun q => bft hmo q.1)] at hr
    obtain ⟨rfl, rfl⟩ : m = M ∧ 1 = c := ⟨congrArg Prod.fst hr, congrArg Prod.snd hr⟩
    have hM : T 11 [aE s, .val true [slE false m]] [vB false] [none, none] := by
      have h := tx11 (s := s) (m := m)
      rwa [moIS, hmo] at h
    repeat' ((conv => whnf); (first | (apply cx11; refine kl (hM) ?_) | (apply cx49; refine kl (tx49 (m := m)) ?_) | refine k0 ?_ | refine jA fun _ => ?_ | refine jB fun _ => ?_ | refine kC (fun _ => ?_) fun _ => ?_ | (apply cx11; refine kl tx11 ?_) | (apply cx48; refine kl tx48 ?_) | (apply cx49; refine kl tx49 ?_) | (apply cx50; refine kl tx50 ?_) | refine jst ?_ | exact ⟨rfl, rfl⟩ | exact jV | fail))
  | true =>
    have hM : T 11 [aE s, .val true [slE false m]] [vB true] [none, none] := by
      have h := tx11 (s := s) (m := m)
      rwa [moIS, hmo] at h
    cases hk : inB kd 1 4 with
    | false =>
      rw [apN_1 (o := ⟨kd, t, row⟩) (fun q => bft hk q.2)] at hr
      obtain ⟨rfl, rfl⟩ : m = M ∧ 1 = c := ⟨congrArg Prod.fst hr, congrArg Prod.snd hr⟩
      have hI : T 48 [aI kd, aI 1, aI 4] [vB false] [none, none, none] := by
        have h := tx48 (n := kd) (l := 1) (h := 4)
        rwa [hk] at h
      repeat' ((conv => whnf); (first | (apply cx11; refine kl (hM) ?_) | (apply cx48; refine kl (hI) ?_) | (apply cx49; refine kl (tx49 (m := m)) ?_) | refine k0 ?_ | refine jA fun _ => ?_ | refine jB fun _ => ?_ | refine kC (fun _ => ?_) fun _ => ?_ | (apply cx11; refine kl tx11 ?_) | (apply cx48; refine kl tx48 ?_) | (apply cx49; refine kl tx49 ?_) | (apply cx50; refine kl tx50 ?_) | refine jst ?_ | exact ⟨rfl, rfl⟩ | exact jV | fail))
    | true =>
      have hI : T 48 [aI kd, aI 1, aI 4] [vB true] [none, none, none] := by
        have h := tx48 (n := kd) (l := 1) (h := 4)
        rwa [hk] at h
      have hA : T 50 [aE s, .val true [slE false m], .val true [i6 kd, i6 t, slE false row]] [(true, [slE false M]), vI c] [none, none, none] := by
        have h := tx50 (s := s) (m := m) (kd := kd) (t := t) (row := row)
        rwa [hr] at h
      repeat' ((conv => whnf); (first | (apply cx11; refine kl (hM) ?_) | (apply cx48; refine kl (hI) ?_) | (apply cx50; refine kl (hA) ?_) | (apply cx49; refine kl (tx49 (m := M)) ?_) | refine k0 ?_ | refine jA fun _ => ?_ | refine jB fun _ => ?_ | refine kC (fun _ => ?_) fun _ => ?_ | (apply cx11; refine kl tx11 ?_) | (apply cx48; refine kl tx48 ?_) | (apply cx49; refine kl tx49 ?_) | (apply cx50; refine kl tx50 ?_) | refine jst ?_ | exact ⟨rfl, rfl⟩ | exact jV | fail))

theorem cx17 {P : Program} {X : FuncId → List Arg → List (Bool × List Cell) → List (Option (List Cell)) → Prop} {a : List Arg} {Q : List (Bool × List Cell) → List (Option (List Cell)) → Prop} (h : ∃ b vals outs, a = b ∧ D P X (.call 17 b vals outs) ∧ Q vals outs) : CallS P X 17 a Q := ⟨h⟩

end Go.Proofs.YtopnaijeicknoaaGreatDoor
