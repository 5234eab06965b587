/- Functions of the program, each with what it gives back. -/
import Derived.Test.YtopnaijeicknoaaGreatDoorKe
import Derived.Test.YtopnaijeicknoaaGreatDoorChecked
import Derived.IntWalk
import Derived.Test.YtopnaijeicknoaaGreatDoorM7
import Derived.Test.YtopnaijeicknoaaGreatDoorM9
namespace Go.Proofs.YtopnaijeicknoaaGreatDoor
open Go Go.RowKit Go.IntWalk
open Enc (sz cs)
attribute [local irreducible] IntKind.wrap

/-! ### Operations, one behind the other -/
attribute [local irreducible] pkR ppN bOf fbN cdN rpN atN tkN moS moI clN2 lkK apN
noncomputable def baN (s : List Df) (m : Tbs) (l : List Opn) : Tbs × Int × Int :=
  if 10 < l.length then (m, 1, 0) else
    if baC s m l = -1 then (baM s m l l.length, 0, l.length)
    else (m, (apN s (baM s m l (baC s m l).toNat) (l.getD (baC s m l).toNat ⟨0, 0, []⟩)).2, baC s m l)
theorem baN_b {s : List Df} {m : Tbs} {l : List Opn} (h : 10 < l.length) : baN s m l = (m, 1, 0) := if_pos h
theorem baN_y {s : List Df} {m : Tbs} {l : List Opn} (h : ¬ 10 < l.length) (hall : ∀ j (h : j < l.length), j < l.length → (apN s (baM s m l j) l[j]).2 = 0) : baN s m l = (baM s m l l.length, 0, ((l.length : Nat) : Int)) := by
  have e : baC s m l = -1 := fstI_no fun j hj q => by
    obtain ⟨hq, q⟩ := q
    exact q (hall j hq hj)
  unfold baN
  rw [if_neg h, if_pos e]
theorem baN_e {s : List Df} {m : Tbs} {l : List Opn} {i : Nat} (h : ¬ 10 < l.length) (hi : i < l.length) (hall : ∀ j (h : j < l.length), j < i → (apN s (baM s m l j) l[j]).2 = 0) (hc : ¬ (apN s (baM s m l i) l[i]).2 = 0) : baN s m l = (m, (apN s (baM s m l i) l[i]).2, ((i : Nat) : Int)) := by
  have e : baC s m l = i := fstI_at hi ⟨hi, hc⟩ fun j hj q => by
    obtain ⟨hq, q⟩ := q
    exact q (hall j hq hj)
  unfold baN
  rw [if_neg h, if_neg (by rw [e]; omega), e, Int.toNat_natCast, List.getD_eq_getElem?_getD, List.getElem?_eq_getElem hi]
  rfl
abbrev cbR (l : List Opn) : Nat := cnt (fun o => zRow o.row) l
theorem ba_z {s : List Df} {m : Tbs} {l : List Opn} {i : Nat} (h : i < l.length) : zMdb (baM s m l i) + zRow l[i].row ≤ zMdb m + cbR l + l.length := by
  have h1 := baM_z (s := s) (m := m) (l := l) (i := i) (by omega)
  have h2 := cnt_take (c := fun o : Opn => zRow o.row) (xs := l) (i := i) h
  have h3 := cnt_le (c := fun o : Opn => zRow o.row) (xs := l) (i := i + 1)
  have e : cbR l = cnt (fun o : Opn => zRow o.row) l := rfl
  omega

set_option maxHeartbeats 2000000 in
set_option maxRecDepth 100000 in
theorem tx26 {s : List Df} {m : Tbs} {l : List Opn} (hs : zSc s ≤ 2000000 := by first | assumption | omega | (simp; done) | (simp; omega)) (hm : zMdb m + cbR l + l.length ≤ 1900000 := by first | assumption | omega | (simp; done) | (simp; omega)) : T 26 [aE s, .val true [slE false m], aE l] [(true, [slE true (baN s m l).1]), vI (baN s m l).2.1, vI (baN s m l).2.2] [none, none, none] := by
  refine w_call md [[1], [], []] Tryz.func26 rfl ?_
  have hm2 : zMdb m ≤ 2000000 := by omega
  by_cases h10 : 10 < l.length
  · rw [baN_b h10]
    repeat' ((conv => whnf); (first | (apply cx49; refine kl (tx49 (m := m)) ?_) | refine k0 ?_ | refine jA fun _ => ?_ | refine jB fun _ => ?_ | refine kC (fun _ => ?_) fun _ => ?_ | (apply cx49; refine kl tx49 ?_) | (apply cx17; refine kl tx17 ?_) | refine jst ?_ | exact ⟨rfl, rfl⟩ | exact jV | fail))
  · repeat' ((conv => whnf); (first | (apply cx49; refine kl (tx49 (m := m)) ?_) | refine k0 ?_ | refine jA fun _ => ?_ | refine jB fun _ => ?_ | refine kC (fun _ => ?_) fun _ => ?_ | (apply cx49; refine kl tx49 ?_) | (apply cx17; refine kl tx17 ?_) | refine jst ?_ | exact ⟨rfl, rfl⟩ | exact jV | fail))
    conv => whnf
    refine loopk (ι := Nat × Tbs) (fun i => (i.1 ≤ l.length ∧ baM s m l i.1 = i.2) ∧ ∀ j (h : j < l.length), j < i.1 → (apN s (baM s m l j) l[j]).2 = 0) (fun i => l.length - i.1) (0, m) [0, 2, 4, 6, 9, 21, 22] (fun i => [(23, .v false [i6 i.1])]) [none, none, none, none, none, some fun i => nE i.2, some fun i => some (true, [.ref 5 0 i.2.length 1])] ?_
    refine ⟨⟨⟨Nat.zero_le _, rfl⟩, by intros; omega⟩, ?_, fun z hz => ?_⟩
    · exact jw [6]
    · obtain ⟨i, M⟩ := z
      obtain ⟨⟨hi, hx⟩, hp⟩ := hz
      simp only at hi hx hp
      repeat' ((conv => whnf); (first | refine k0 ?_ | (apply cx49; refine kl tx49 ?_) | (apply cx17; refine kl tx17 ?_) | refine jst ?_ | exact ⟨rfl, rfl⟩ | exact jV | fail))
      conv => whnf
      refine ⟨fun hlt => ?_, fun hge => ?_⟩
      · have hi2 : i < l.length := by omega
        have hzz := ba_z (s := s) (m := m) hi2
        rw [hx] at hzz
        obtain ⟨M2, c, hr⟩ : ∃ M2 c, apN s M l[i] = (M2, c) := ⟨_, _, rfl⟩
        have hA : T 17 [aE s, .val true [slE false M], .val true [i6 l[i].kind, i6 l[i].t, slE false l[i].row]] [(true, [slE true M2]), vI c] [none, none, none] := by
          have h : T 17 [aE s, .val true [slE false M], .val true [i6 l[i].kind, i6 l[i].t, slE false l[i].row]] [(true, [slE true (apN s M l[i]).1]), vI (apN s M l[i]).2] [none, none, none] := tx17 (s := s) (m := M) (kd := l[i].kind) (t := l[i].t) (row := l[i].row)
          rwa [hr] at h
        by_cases hc : c = 0
        · subst hc
          repeat' ((conv => whnf); (first | (apply cx17; refine kl (hA) ?_) | refine And.intro ⟨by omega, by omega⟩ (Exists.intro _ (And.intro (rdI (i := i) (by omega) (by omega)) ?_)) | refine k0 ?_ | refine jA fun _ => ?_ | refine jB fun _ => ?_ | refine kC (fun _ => ?_) fun _ => ?_ | (apply cx49; refine kl tx49 ?_) | (apply cx17; refine kl tx17 ?_) | refine jst ?_ | exact ⟨rfl, rfl⟩ | exact jV | fail))
          refine ⟨⟨(i + 1, M2), ⟨⟨by simp only; omega, (baM_suc hi2).trans (by rw [hx, hr])⟩, all_suc hp hi2 (by rw [hx, hr])⟩⟩, by simp only; omega, ?_⟩
          exact jw [6]
        · have hn : baN s m l = (m, c, ((i : Nat) : Int)) := by rw [baN_e h10 hi2 hp (by rw [hx, hr]; exact hc), hx, hr]
          repeat' ((conv => whnf); (first | (apply cx17; refine kl (hA) ?_) | (apply cx49; refine kl (tx49 (m := m)) ?_) | refine And.intro ⟨by omega, by omega⟩ (Exists.intro _ (And.intro (rdI (i := i) (by omega) (by omega)) ?_)) | refine k0 ?_ | refine jA fun _ => ?_ | refine jB fun _ => ?_ | refine kC (fun _ => ?_) fun _ => ?_ | (apply cx49; refine kl tx49 ?_) | (apply cx17; refine kl tx17 ?_) | refine jst ?_ | exact ⟨rfl, rfl⟩ | exact jV | fail))
          exact ⟨by rw [hn]; rfl, rfl⟩
      · obtain rfl : i = l.length := by omega
        have hn : baN s m l = (M, 0, ((l.length : Nat) : Int)) := by rw [baN_y h10 hp, hx]
        repeat' ((conv => whnf); (first | refine k0 ?_ | refine jA fun _ => ?_ | refine jB fun _ => ?_ | refine kC (fun _ => ?_) fun _ => ?_ | (apply cx49; refine kl tx49 ?_) | (apply cx17; refine kl tx17 ?_) | refine jst ?_ | exact ⟨rfl, rfl⟩ | exact jV | fail))
        exact ⟨by rw [hn]; rfl, rfl⟩

theorem cx26 {P : Program} {X : FuncId → List Arg → List (Bool × List Cell) → List (Option (List Cell)) → Prop} {a : List Arg} {Q : List (Bool × List Cell) → List (Option (List Cell)) → Prop} (h : ∃ b vals outs, a = b ∧ D P X (.call 26 b vals outs) ∧ Q vals outs) : CallS P X 26 a Q := ⟨h⟩

set_option maxHeartbeats 2000000 in
set_option maxRecDepth 100000 in
theorem tx24 {s : List Df} {m : Tbs} {l : List Opn} (hs : zSc s ≤ 2000000 := by first | assumption | omega | (simp; done) | (simp; omega)) (hm : zMdb m + cbR l + l.length ≤ 1900000 := by first | assumption | omega | (simp; done) | (simp; omega)) : T 24 [aE s, .val true [slE false m], aE l] [(true, [slE false (baN s m l).1]), vI (baN s m l).2.1, vI (baN s m l).2.2] [none, none, none] := by
  refine w_call md [[1], [], []] Tryz.func24 rfl ?_
  have hm2 : zMdb m ≤ 2000000 := by omega
  by_cases h10 : 10 < l.length
  · rw [baN_b h10]
    repeat' ((conv => whnf); (first | (apply cx40; refine kl (tx40 (m := m)) ?_) | refine bstep (w_frz 5 (m)) ?_ | refine ⟨snc, cs false m, cs_whole, ?_⟩ | refine k0 ?_ | refine jA fun _ => ?_ | refine jB fun _ => ?_ | refine kC (fun _ => ?_) fun _ => ?_ | (apply cx40; refine kl tx40 ?_) | (apply cx15; refine kl tx15 ?_) | refine jst ?_ | exact ⟨rfl, rfl⟩ | exact jV | fail))
  · repeat' ((conv => whnf); (first | (apply cx40; refine kl (tx40 (m := m)) ?_) | refine bstep (w_inF true 6 5 [] m [] m.length 1 rfl) ?_ | refine k0 ?_ | refine jA fun _ => ?_ | refine jB fun _ => ?_ | refine kC (fun _ => ?_) fun _ => ?_ | (apply cx40; refine kl tx40 ?_) | (apply cx15; refine kl tx15 ?_) | refine jst ?_ | exact ⟨rfl, rfl⟩ | exact jV | fail))
    conv => whnf
    refine loopk (ι := Nat × Tbs) (fun i => (i.1 ≤ l.length ∧ baM s m l i.1 = i.2) ∧ ∀ j (h : j < l.length), j < i.1 → (apN s (baM s m l j) l[j]).2 = 0) (fun i => l.length - i.1) (0, m) [0, 2, 4, 6, 9] (fun i => [(10, .v false [i6 i.1])]) [none, none, none, none, none, none, some fun i => some (true, [slE false i.2])] ?_
    refine ⟨⟨⟨Nat.zero_le _, rfl⟩, by intros; omega⟩, ?_, fun z hz => ?_⟩
    · exact jw []
    · obtain ⟨i, M⟩ := z
      obtain ⟨⟨hi, hx⟩, hp⟩ := hz
      simp only at hi hx hp
      repeat' ((conv => whnf); (first | refine k0 ?_ | (apply cx40; refine kl tx40 ?_) | (apply cx15; refine kl tx15 ?_) | refine jst ?_ | exact ⟨rfl, rfl⟩ | exact jV | fail))
      conv => whnf
      refine ⟨fun hlt => ?_, fun hge => ?_⟩
      · have hi2 : i < l.length := by omega
        have hzz := ba_z (s := s) (m := m) hi2
        rw [hx] at hzz
        obtain ⟨M2, c, hr⟩ : ∃ M2 c, apN s M l[i] = (M2, c) := ⟨_, _, rfl⟩
        have hA : T 15 [aE s, .val true [slE false M], .val true [i6 l[i].kind, i6 l[i].t, slE false l[i].row]] [(true, [slE false M2]), vI c] [none, none, none] := by
          have h : T 15 [aE s, .val true [slE false M], .val true [i6 l[i].kind, i6 l[i].t, slE false l[i].row]] [(true, [slE false (apN s M l[i]).1]), vI (apN s M l[i]).2] [none, none, none] := tx15 (s := s) (m := M) (kd := l[i].kind) (t := l[i].t) (row := l[i].row)
          rwa [hr] at h
        by_cases hc : c = 0
        · subst hc
          repeat' ((conv => whnf); (first | (apply cx15; refine kl (hA) ?_) | refine And.intro ⟨by omega, by omega⟩ (Exists.intro _ (And.intro (rdI (i := i) (by omega) (by omega)) ?_)) | refine k0 ?_ | refine jA fun _ => ?_ | refine jB fun _ => ?_ | refine kC (fun _ => ?_) fun _ => ?_ | (apply cx40; refine kl tx40 ?_) | (apply cx15; refine kl tx15 ?_) | refine jst ?_ | exact ⟨rfl, rfl⟩ | exact jV | fail))
          refine ⟨⟨(i + 1, M2), ⟨⟨by simp only; omega, (baM_suc hi2).trans (by rw [hx, hr])⟩, all_suc hp hi2 (by rw [hx, hr])⟩⟩, by simp only; omega, ?_⟩
          exact jw []
        · have hn : baN s m l = (m, c, ((i : Nat) : Int)) := by rw [baN_e h10 hi2 hp (by rw [hx, hr]; exact hc), hx, hr]
          repeat' ((conv => whnf); (first | (apply cx15; refine kl (hA) ?_) | (apply cx40; refine kl (tx40 (m := m)) ?_) | refine And.intro ⟨by omega, by omega⟩ (Exists.intro _ (And.intro (rdI (i := i) (by omega) (by omega)) ?_)) | refine bstep (w_frz 168 (m)) ?_ | refine ⟨snc, cs false m, cs_whole, ?_⟩ | refine k0 ?_ | refine jA fun _ => ?_ | refine jB fun _ => ?_ | refine kC (fun _ => ?_) fun _ => ?_ | (apply cx40; refine kl tx40 ?_) | (apply cx15; refine kl tx15 ?_) | refine jst ?_ | exact ⟨rfl, rfl⟩ | exact jV | fail))
          exact ⟨by rw [hn]; rfl, rfl⟩
      · obtain rfl : i = l.length := by omega
        have hn : baN s m l = (M, 0, ((l.length : Nat) : Int)) := by rw [baN_y h10 hp, hx]
        repeat' ((conv => whnf); (first | refine k0 ?_ | refine jA fun _ => ?_ | refine jB fun _ => ?_ | refine kC (fun _ => ?_) fun _ => ?_ | (apply cx40; refine kl tx40 ?_) | (apply cx15; refine kl tx15 ?_) | refine jst ?_ | exact ⟨rfl, rfl⟩ | exact jV | fail))
        exact ⟨by rw [hn]; rfl, rfl⟩

theorem cx24 {P : Program} {X : FuncId → List Arg → List (Bool × List Cell) → List (Option (List Cell)) → Prop} {a : List Arg} {Q : List (Bool × List Cell) → List (Option (List Cell)) → Prop} (h : ∃ b vals outs, a = b ∧ D P X (.call 24 b vals outs) ∧ Q vals outs) : CallS P X 24 a Q := ⟨h⟩

end Go.Proofs.YtopnaijeicknoaaGreatDoor
