/- Functions of the program, each with what it gives back. -/
import Derived.Test.YtopnaijeicknoaaGreatDoorKe
import Derived.Test.YtopnaijeicknoaaGreatDoorChecked
import Derived.IntWalk
import Derived.Test.YtopnaijeicknoaaGreatDoorMy
namespace Go.Proofs.YtopnaijeicknoaaGreatDoor
open Go Go.RowKit Go.IntWalk
open Enc (sz cs)
attribute [local irreducible] IntKind.wrap

attribute [local irreducible] bOf fbN tbI tbS
theorem zMdb_r {m : Tbs} (h : zMdb m ≤ 2000000) {k : Nat} (hk : k < m.length) : RwB m[k] := by
  have h3 := cnt_mem (c := zTab) (List.getElem_mem hk)
  have h0 : zMdb m = m.length + cnt zTab m := rfl
  have e3 : zTab m[k] = m[k].length + cnt zRow m[k] := rfl
  refine ⟨by omega, fun j hj => ?_⟩
  have h4 := cnt_mem (c := zRow) (List.getElem_mem hj)
  have e4 : zRow m[k][j] = m[k][j].length + cnt zVl m[k][j] := rfl
  refine ⟨by omega, fun i hi => ?_⟩
  have h5 := cnt_mem (c := zVl) (List.getElem_mem hi)
  have e5 : zVl m[k][j][i] = m[k][j][i].s.size := rfl
  omega
noncomputable def moI (s : List Df) (m : Tbs) : Bool := bOf (fbN s = -1 ∧ m.length = s.length ∧ ∀ t (h : t < s.length) (h2 : t < m.length), tbI s[t] t m[t] = true)
noncomputable def moS (s : List Df) (m : Tbs) : Bool := bOf (fbN s = -1 ∧ m.length = s.length ∧ ∀ t (h : t < s.length) (h2 : t < m.length), tbS s[t] t m[t] = true)

set_option maxHeartbeats 2000000 in
set_option maxRecDepth 100000 in
theorem tx11 {s : List Df} {m : Tbs} (hs : zSc s ≤ 2000000 := by first | assumption | omega | (simp; done) | (simp; omega)) (hm : zMdb m ≤ 2000000 := by first | assumption | omega | (simp; done) | (simp; omega)) : T 11 [aE s, .val true [slE false m]] [vB (moI s m)] [none, none] := by
  refine w_call md [] Tryz.func11 rfl ?_
  obtain ⟨q1, q2⟩ := zSc_b hs
  obtain ⟨z1, z2⟩ := zMdb_b hm
  by_cases h : fbN s = -1
  · have hF : T 35 [aE s] [vI (-1)] [none] := by
      have h2 := tx35 (s := s)
      rwa [h] at h2
    by_cases hl : m.length = s.length
    · repeat' ((conv => whnf); (first | (apply cx35; refine kl (hF) ?_) | refine k0 ?_ | refine jA fun _ => ?_ | refine jB fun _ => ?_ | refine kC (fun _ => ?_) fun _ => ?_ | (apply cx35; refine kl tx35 ?_) | (apply cx36; refine kl tx36 ?_) | refine jst ?_ | exact ⟨rfl, rfl⟩ | exact jV | fail))
      conv => whnf
      refine loopk (ι := Nat) (fun i => i ≤ s.length ∧ ∀ j (h : j < s.length), j < i → ∀ h2 : j < m.length, tbI s[j] j m[j] = true) (fun i => s.length - i) (0) [0, 3, 18] (fun i => [(19, .v false [i6 i])]) [none, none, some fun _ => some (true, [slE false m])] ?_
      refine ⟨⟨by omega, by intros; omega⟩, ?_, fun u hi => ?_⟩
      · exact jw []
      · repeat' ((conv => whnf); (first | refine k0 ?_ | (apply cx35; refine kl tx35 ?_) | (apply cx36; refine kl tx36 ?_) | refine jst ?_ | exact ⟨rfl, rfl⟩ | exact jV | fail))
        conv => whnf
        refine ⟨fun hlt => ?_, fun hge => ?_⟩
        · have hi2 : u < s.length := by omega
          have hi3 : u < m.length := by omega
          have hrb := zMdb_r hm hi3
          have hT : T 36 [aE s, aI (u : Nat), aE m[u]] [vB (tbI s[u] u m[u])] [none, none, none] := tx36 h hi2
          cases h5 : tbI s[u] u m[u]
          · rw [h5] at hT
            repeat' ((conv => whnf); (first | refine And.intro ⟨by omega, by omega⟩ (Exists.intro _ (And.intro (rdI (i := u) (by omega) (by omega)) ?_)) | (apply cx36; refine kl (hT) ?_) | refine k0 ?_ | refine jA fun _ => ?_ | refine jB fun _ => ?_ | refine kC (fun _ => ?_) fun _ => ?_ | (apply cx35; refine kl tx35 ?_) | (apply cx36; refine kl tx36 ?_) | refine jst ?_ | exact ⟨rfl, rfl⟩ | exact jV | fail))
            exact ⟨vB0 (bOf_n fun q => bft h5 (q.2.2 u hi2 hi3)), rfl⟩
          · rw [h5] at hT
            repeat' ((conv => whnf); (first | refine And.intro ⟨by omega, by omega⟩ (Exists.intro _ (And.intro (rdI (i := u) (by omega) (by omega)) ?_)) | (apply cx36; refine kl (hT) ?_) | refine k0 ?_ | refine jA fun _ => ?_ | refine jB fun _ => ?_ | refine kC (fun _ => ?_) fun _ => ?_ | (apply cx35; refine kl tx35 ?_) | (apply cx36; refine kl tx36 ?_) | refine jst ?_ | exact ⟨rfl, rfl⟩ | exact jV | fail))
            refine ⟨⟨u + 1, by omega, all_suc hi.2 hi2 (fun _ => h5)⟩, by simp only; omega, ?_⟩
            exact jw []
        · obtain rfl : u = s.length := by omega
          repeat' ((conv => whnf); (first | refine k0 ?_ | refine jA fun _ => ?_ | refine jB fun _ => ?_ | refine kC (fun _ => ?_) fun _ => ?_ | (apply cx35; refine kl tx35 ?_) | (apply cx36; refine kl tx36 ?_) | refine jst ?_ | exact ⟨rfl, rfl⟩ | exact jV | fail))
          exact ⟨vB1 (bOf_y ⟨h, hl, fun t h1 h2 => hi.2 t h1 h1 h2⟩), rfl⟩
    · repeat' ((conv => whnf); (first | (apply cx35; refine kl (hF) ?_) | refine k0 ?_ | refine jA fun _ => ?_ | refine jB fun _ => ?_ | refine kC (fun _ => ?_) fun _ => ?_ | (apply cx35; refine kl tx35 ?_) | (apply cx36; refine kl tx36 ?_) | refine jst ?_ | exact ⟨rfl, rfl⟩ | exact jV | fail))
      all_goals exact ⟨vB0 (bOf_n fun q => hl q.2.1), rfl⟩
  · repeat' ((conv => whnf); (first | (apply cx35; refine kl (tx35 (s := s)) ?_) | refine k0 ?_ | refine jA fun _ => ?_ | refine jB fun _ => ?_ | refine kC (fun _ => ?_) fun _ => ?_ | (apply cx35; refine kl tx35 ?_) | (apply cx36; refine kl tx36 ?_) | refine jst ?_ | exact ⟨rfl, rfl⟩ | exact jV | fail))
    exact ⟨vB0 (bOf_n fun q => h q.1), rfl⟩

theorem cx11 {P : Program} {X : FuncId → List Arg → List (Bool × List Cell) → List (Option (List Cell)) → Prop} {a : List Arg} {Q : List (Bool × List Cell) → List (Option (List Cell)) → Prop} (h : ∃ b vals outs, a = b ∧ D P X (.call 11 b vals outs) ∧ Q vals outs) : CallS P X 11 a Q := ⟨h⟩

set_option maxHeartbeats 2000000 in
set_option maxRecDepth 100000 in
theorem tx8 {s : List Df} {m : Tbs} (hs : zSc s ≤ 2000000 := by first | assumption | omega | (simp; done) | (simp; omega)) (hm : zMdb m ≤ 2000000 := by first | assumption | omega | (simp; done) | (simp; omega)) : T 8 [aE s, .val true [slE false m]] [vB (moS s m)] [none, none] := by
  refine w_call md [] Tryz.func8 rfl ?_
  obtain ⟨q1, q2⟩ := zSc_b hs
  obtain ⟨z1, z2⟩ := zMdb_b hm
  by_cases h : fbN s = -1
  · have hF : T 31 [aE s] [vI (-1)] [none] := by
      have h2 := tx31 (s := s)
      rwa [h] at h2
    by_cases hl : m.length = s.length
    · repeat' ((conv => whnf); (first | (apply cx31; refine kl (hF) ?_) | refine k0 ?_ | refine jA fun _ => ?_ | refine jB fun _ => ?_ | refine kC (fun _ => ?_) fun _ => ?_ | (apply cx31; refine kl tx31 ?_) | (apply cx32; refine kl tx32 ?_) | refine jst ?_ | exact ⟨rfl, rfl⟩ | exact jV | fail))
      conv => whnf
      refine loopk (ι := Nat) (fun i => i ≤ s.length ∧ ∀ j (h : j < s.length), j < i → ∀ h2 : j < m.length, tbS s[j] j m[j] = true) (fun i => s.length - i) (0) [0, 3] (fun i => [(5, .v false [i6 i])]) [none, none, some fun _ => some (true, [slE false m])] ?_
      refine ⟨⟨by omega, by intros; omega⟩, ?_, fun u hi => ?_⟩
      · exact jw []
      · repeat' ((conv => whnf); (first | refine k0 ?_ | (apply cx31; refine kl tx31 ?_) | (apply cx32; refine kl tx32 ?_) | refine jst ?_ | exact ⟨rfl, rfl⟩ | exact jV | fail))
        conv => whnf
        refine ⟨fun hlt => ?_, fun hge => ?_⟩
        · have hi2 : u < s.length := by omega
          have hi3 : u < m.length := by omega
          have hrb := zMdb_r hm hi3
          have hT : T 32 [aE s, aI (u : Nat), aE m[u]] [vB (tbS s[u] u m[u])] [none, none, none] := tx32 h hi2
          cases h5 : tbS s[u] u m[u]
          · rw [h5] at hT
            repeat' ((conv => whnf); (first | refine And.intro ⟨by omega, by omega⟩ (Exists.intro _ (And.intro (rdI (i := u) (by omega) (by omega)) ?_)) | (apply cx32; refine kl (hT) ?_) | refine k0 ?_ | refine jA fun _ => ?_ | refine jB fun _ => ?_ | refine kC (fun _ => ?_) fun _ => ?_ | (apply cx31; refine kl tx31 ?_) | (apply cx32; refine kl tx32 ?_) | refine jst ?_ | exact ⟨rfl, rfl⟩ | exact jV | fail))
            exact ⟨vB0 (bOf_n fun q => bft h5 (q.2.2 u hi2 hi3)), rfl⟩
          · rw [h5] at hT
            repeat' ((conv => whnf); (first | refine And.intro ⟨by omega, by omega⟩ (Exists.intro _ (And.intro (rdI (i := u) (by omega) (by omega)) ?_)) | (apply cx32; refine kl (hT) ?_) | refine k0 ?_ | refine jA fun _ => ?_ | refine jB fun _ => ?_ | refine kC (fun _ => ?_) fun _ => ?_ | (apply cx31; refine kl tx31 ?_) | (apply cx32; refine kl tx32 ?_) | refine jst ?_ | exact ⟨rfl, rfl⟩ | exact jV | fail))
            refine ⟨⟨u + 1, by omega, all_suc hi.2 hi2 (fun _ => h5)⟩, by simp only; omega, ?_⟩
            exact jw []
        · obtain rfl : u = s.length := by omega
          repeat' ((conv => whnf); (first | refine k0 ?_ | refine jA fun _ => ?_ | refine jB fun _ => ?_ | refine kC (fun _ => ?_) fun _ => ?_ | (apply cx31; refine kl tx31 ?_) | (apply cx32; refine kl tx32 ?_) | refine jst ?_ | exact ⟨rfl, rfl⟩ | exact jV | fail))
          exact ⟨vB1 (bOf_y ⟨h, hl, fun t h1 h2 => hi.2 t h1 h1 h2⟩), rfl⟩
    · repeat' ((conv => whnf); (first | (apply cx31; refine kl (hF) ?_) | refine k0 ?_ | refine jA fun _ => ?_ | refine jB fun _ => ?_ | refine kC (fun _ => ?_) fun _ => ?_ | (apply cx31; refine kl tx31 ?_) | (apply cx32; refine kl tx32 ?_) | refine jst ?_ | exact ⟨rfl, rfl⟩ | exact jV | fail))
      all_goals exact ⟨vB0 (bOf_n fun q => hl q.2.1), rfl⟩
  · repeat' ((conv => whnf); (first | (apply cx31; refine kl (tx31 (s := s)) ?_) | refine k0 ?_ | refine jA fun _ => ?_ | refine jB fun _ => ?_ | refine kC (fun _ => ?_) fun _ => ?_ | (apply cx31; refine kl tx31 ?_) | (apply cx32; refine kl tx32 ?_) | refine jst ?_ | exact ⟨rfl, rfl⟩ | exact jV | fail))
    exact ⟨vB0 (bOf_n fun q => h q.1), rfl⟩

theorem cx8 {P : Program} {X : FuncId → List Arg → List (Bool × List Cell) → List (Option (List Cell)) → Prop} {a : List Arg} {Q : List (Bool × List Cell) → List (Option (List Cell)) → Prop} (h : ∃ b vals outs, a = b ∧ D P X (.call 8 b vals outs) ∧ Q vals outs) : CallS P X 8 a Q := ⟨h⟩

end Go.Proofs.YtopnaijeicknoaaGreatDoor
