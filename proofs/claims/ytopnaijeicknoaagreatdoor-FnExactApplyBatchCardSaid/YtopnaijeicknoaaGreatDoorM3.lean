/- Functions of the program, each with what it gives back. -/
import Derived.Test.YtopnaijeicknoaaGreatDoorKe
import Derived.Test.YtopnaijeicknoaaGreatDoorChecked
import Derived.IntWalk
import Derived.Test.YtopnaijeicknoaaGreatDoorM2
namespace Go.Proofs.YtopnaijeicknoaaGreatDoor
open Go Go.RowKit Go.IntWalk
open Enc (sz cs)
attribute [local irreducible] IntKind.wrap

/-! ### Copies of tables -/
attribute [local irreducible] pkR ppN bOf fbN cdN rpN atN tkN moS moI
theorem zTab_b {t : List (List Vl)} (h : zTab t ≤ 2000000) : t.length ≤ 2000000 ∧ ∀ j (hj : j < t.length), t[j].length ≤ 2000000 := by
  have e3 : zTab t = t.length + cnt zRow t := rfl
  refine ⟨by omega, fun j hj => ?_⟩
  have h4 := cnt_mem (c := zRow) (List.getElem_mem hj)
  have e4 : zRow t[j] = t[j].length + cnt zVl t[j] := rfl
  omega
theorem zMdb_t {m : Tbs} (h : zMdb m ≤ 2000000) {k : Nat} (hk : k < m.length) : zTab m[k] ≤ 2000000 := by
  have h3 := cnt_mem (c := zTab) (List.getElem_mem hk)
  have h0 : zMdb m = m.length + cnt zTab m := rfl
  omega

set_option maxHeartbeats 2000000 in
set_option maxRecDepth 100000 in
theorem tx87 {t : List (List Vl)} (ht : zTab t ≤ 2000000 := by first | assumption | omega | (simp; done) | (simp; omega)) : T 87 [aE t] [vE t] [none] := by
  refine w_call md [] Tryz.func87 rfl ?_
  obtain ⟨z1, z2⟩ := zTab_b ht
  repeat' ((conv => whnf); (first | refine k0 ?_ | refine jA fun _ => ?_ | refine jB fun _ => ?_ | refine kC (fun _ => ?_) fun _ => ?_ | refine jst ?_ | exact ⟨rfl, rfl⟩ | exact jV | fail))
  conv => whnf
  refine loopk (ι := Nat) (fun i => i ≤ t.length) (fun i => t.length - i) (0) [0] (fun i => [(3, .v false [.ref 1 0 i 1]), (4, .v false [i6 i])]) [none, some fun i => nE (t.take i)] ?_
  refine ⟨by omega, ?_, fun i hi => ?_⟩
  · exact jw []
  · repeat' ((conv => whnf); (first | refine k0 ?_ | refine jst ?_ | exact ⟨rfl, rfl⟩ | exact jV | fail))
    conv => whnf
    refine ⟨fun hlt => ?_, fun hge => ?_⟩
    · have hi2 : i < t.length := by omega
      have hz := z2 i hi2
      repeat' ((conv => whnf); (first | refine Exists.intro _ (Exists.intro (cs true (_ : List Vl)) (And.intro rfl (And.intro ⟨Nat.le_refl _, bgb (by omega), bg (by omega)⟩ (Exists.intro _ (And.intro ape (Exists.intro _ (And.intro (Nat.zero_add _) ?_))))))) | refine Exists.intro _ (Exists.intro _ (And.intro rfl (And.intro ⟨by simp <;> omega, bgb (by omega), bg (by omega)⟩ (apR (xs := t.take i) ?_)))) | refine k0 ?_ | refine jA fun _ => ?_ | refine jB fun _ => ?_ | refine kC (fun _ => ?_) fun _ => ?_ | refine jst ?_ | exact ⟨rfl, rfl⟩ | exact jV | fail))
      refine ⟨⟨i + 1, by omega⟩, by simp only; omega, (w_inE 5 3 (cs true (t.take i)) t[i] [] t[i].length 3 (tk1 hi2 rfl)).trans ?_⟩
      exact jw []
    · obtain rfl : i = t.length := by omega
      repeat' ((conv => whnf); (first | refine k0 ?_ | refine jA fun _ => ?_ | refine jB fun _ => ?_ | refine kC (fun _ => ?_) fun _ => ?_ | refine jst ?_ | exact ⟨rfl, rfl⟩ | exact jV | fail))
      exact ⟨by rw [List.take_length]; rfl, rfl⟩

theorem cx87 {P : Program} {X : FuncId → List Arg → List (Bool × List Cell) → List (Option (List Cell)) → Prop} {a : List Arg} {Q : List (Bool × List Cell) → List (Option (List Cell)) → Prop} (h : ∃ b vals outs, a = b ∧ D P X (.call 87 b vals outs) ∧ Q vals outs) : CallS P X 87 a Q := ⟨h⟩

set_option maxHeartbeats 2000000 in
set_option maxRecDepth 100000 in
theorem tx40 {m : Tbs} (hm : zMdb m ≤ 2000000 := by first | assumption | omega | (simp; done) | (simp; omega)) : T 40 [.val true [slE false m]] [(true, [slE true m])] [none] := by
  refine w_call md [] Tryz.func40 rfl ?_
  obtain ⟨z1, z2⟩ := zMdb_b hm
  repeat' ((conv => whnf); (first | refine k0 ?_ | refine jA fun _ => ?_ | refine jB fun _ => ?_ | refine kC (fun _ => ?_) fun _ => ?_ | (apply cx87; refine kl tx87 ?_) | refine jst ?_ | exact ⟨rfl, rfl⟩ | exact jV | fail))
  conv => whnf
  refine loopk (ι := Nat) (fun i => i ≤ m.length) (fun i => m.length - i) (0) [1, 2] (fun i => [(3, .v false [.ptr 3 0]), (4, .v false [i6 i])]) [none, none, none, some fun i => some (true, [.ref 4 0 i 1]), some fun i => nE (m.take i)] ?_
  refine ⟨by omega, ?_, fun i hi => ?_⟩
  · exact (w_nilN 3 1 [] []).trans (jw [3])
  · repeat' ((conv => whnf); (first | refine k0 ?_ | (apply cx87; refine kl tx87 ?_) | refine jst ?_ | exact ⟨rfl, rfl⟩ | exact jV | fail))
    conv => whnf
    refine ⟨fun hlt => ?_, fun hge => ?_⟩
    · have hi2 : i < m.length := by omega
      have hz := zMdb_t hm hi2
      repeat' ((conv => whnf); (first | (apply cx87; refine kl (tx87 (t := m[i])) ?_) | refine Exists.intro _ (Exists.intro _ (And.intro rfl (And.intro ⟨by simp <;> omega, bgb (by omega), bg (by omega)⟩ (apR (xs := m.take i) ?_)))) | refine k0 ?_ | refine jA fun _ => ?_ | refine jB fun _ => ?_ | refine kC (fun _ => ?_) fun _ => ?_ | (apply cx87; refine kl tx87 ?_) | refine jst ?_ | exact ⟨rfl, rfl⟩ | exact jV | fail))
      refine ⟨⟨i + 1, by omega⟩, by simp only; omega, (w_inE 181 133 (cs true (m.take i)) m[i] [] m[i].length 1 (tk1 hi2 rfl)).trans ?_⟩
      exact jw [3]
    · obtain rfl : i = m.length := by omega
      repeat' ((conv => whnf); (first | refine k0 ?_ | refine jA fun _ => ?_ | refine jB fun _ => ?_ | refine kC (fun _ => ?_) fun _ => ?_ | (apply cx87; refine kl tx87 ?_) | refine jst ?_ | exact ⟨rfl, rfl⟩ | exact jV | fail))
      exact ⟨by rw [List.take_length]; rfl, rfl⟩

theorem cx40 {P : Program} {X : FuncId → List Arg → List (Bool × List Cell) → List (Option (List Cell)) → Prop} {a : List Arg} {Q : List (Bool × List Cell) → List (Option (List Cell)) → Prop} (h : ∃ b vals outs, a = b ∧ D P X (.call 40 b vals outs) ∧ Q vals outs) : CallS P X 40 a Q := ⟨h⟩

set_option maxHeartbeats 2000000 in
set_option maxRecDepth 100000 in
theorem tx49 {m : Tbs} (hm : zMdb m ≤ 2000000 := by first | assumption | omega | (simp; done) | (simp; omega)) : T 49 [.val true [slE false m]] [(true, [slE true m])] [none] := by
  refine w_call md [[1]] Tryz.func49 rfl ?_
  obtain ⟨z1, z2⟩ := zMdb_b hm
  repeat' ((conv => whnf); (first | refine k0 ?_ | refine jA fun _ => ?_ | refine jB fun _ => ?_ | refine kC (fun _ => ?_) fun _ => ?_ | (apply cx92; refine kl tx92 ?_) | refine jst ?_ | exact ⟨rfl, rfl⟩ | exact jV | fail))
  conv => whnf
  refine loopk (ι := Nat) (fun i => i ≤ m.length) (fun i => m.length - i) (0) [2, 3, 10, 11] (fun i => [(12, .v false [i6 i])]) [none, none, none, some fun i => some (true, [.ref 4 0 i 1]), some fun i => nE (m.take i)] ?_
  refine ⟨by omega, ?_, fun u hi => ?_⟩
  · exact (w_nilN 3 1 [] []).trans (jw [3])
  · repeat' ((conv => whnf); (first | refine k0 ?_ | (apply cx92; refine kl tx92 ?_) | refine jst ?_ | exact ⟨rfl, rfl⟩ | exact jV | fail))
    conv => whnf
    refine ⟨fun hlt => ?_, fun hge => ?_⟩
    · have hi2 : u < m.length := by omega
      obtain ⟨z3, z4⟩ := z2 u hi2
      repeat' ((conv => whnf); (first | refine k0 ?_ | refine jA fun _ => ?_ | refine jB fun _ => ?_ | refine kC (fun _ => ?_) fun _ => ?_ | (apply cx92; refine kl tx92 ?_) | refine jst ?_ | exact ⟨rfl, rfl⟩ | exact jV | fail))
      conv => whnf
      refine loopk (ι := Nat) (fun i => i ≤ m[u].length) (fun i => m[u].length - i) (0) [2, 3, 6, 10, 11, 12, 17, 18] (fun i => [(19, .v false [i6 i])]) [none, none, none, some fun _ => some (true, [.ref 4 0 u 1]), some fun _ => nE (m.take u), none, some fun i => some (true, [.ref 7 0 i 1]), some fun i => nE (m[u].take i)] ?_
      refine ⟨by omega, ?_, fun i hi => ?_⟩
      · exact (w_nilN 6 1 [] []).trans (jw [3, 6])
      · repeat' ((conv => whnf); (first | refine k0 ?_ | (apply cx92; refine kl tx92 ?_) | refine jst ?_ | exact ⟨rfl, rfl⟩ | exact jV | fail))
        conv => whnf
        refine ⟨fun hlt2 => ?_, fun hge2 => ?_⟩
        · have hi3 : i < m[u].length := by omega
          have hz := z4 i hi3
          repeat' ((conv => whnf); (first | (apply cx92; refine kl (tx92 (r := m[u][i])) ?_) | refine Exists.intro _ (Exists.intro _ (And.intro rfl (And.intro ⟨by simp <;> omega, bgb (by omega), bg (by omega)⟩ (apR (xs := m[u].take i) ?_)))) | refine k0 ?_ | refine jA fun _ => ?_ | refine jB fun _ => ?_ | refine kC (fun _ => ?_) fun _ => ?_ | (apply cx92; refine kl tx92 ?_) | refine jst ?_ | exact ⟨rfl, rfl⟩ | exact jV | fail))
          refine ⟨⟨i + 1, by omega⟩, by simp only; omega, (w_inE 88 56 (cs true (m[u].take i)) m[u][i] [] m[u][i].length 3 (tk1 hi3 rfl)).trans ?_⟩
          exact jw [3, 6]
        · obtain rfl : i = m[u].length := by omega
          repeat' ((conv => whnf); (first | refine Exists.intro _ (Exists.intro _ (And.intro rfl (And.intro ⟨by simp <;> omega, bgb (by omega), bg (by omega)⟩ (apR (xs := m.take u) ?_)))) | refine k0 ?_ | refine jA fun _ => ?_ | refine jB fun _ => ?_ | refine kC (fun _ => ?_) fun _ => ?_ | (apply cx92; refine kl tx92 ?_) | refine jst ?_ | exact ⟨rfl, rfl⟩ | exact jV | fail))
          refine ⟨⟨u + 1, by omega⟩, by simp only; omega, (w_inE 9 7 (cs true (m.take u)) (m[u].take m[u].length) [] m[u].length 1 (cs1 := cs true (m.take (u + 1))) (by rw [List.take_length]; exact tk1 hi2 rfl)).trans ?_⟩
          exact jw [3]
    · obtain rfl : u = m.length := by omega
      repeat' ((conv => whnf); (first | refine k0 ?_ | refine jA fun _ => ?_ | refine jB fun _ => ?_ | refine kC (fun _ => ?_) fun _ => ?_ | (apply cx92; refine kl tx92 ?_) | refine jst ?_ | exact ⟨rfl, rfl⟩ | exact jV | fail))
      exact ⟨by rw [List.take_length]; rfl, rfl⟩

theorem cx49 {P : Program} {X : FuncId → List Arg → List (Bool × List Cell) → List (Option (List Cell)) → Prop} {a : List Arg} {Q : List (Bool × List Cell) → List (Option (List Cell)) → Prop} (h : ∃ b vals outs, a = b ∧ D P X (.call 49 b vals outs) ∧ Q vals outs) : CallS P X 49 a Q := ⟨h⟩

end Go.Proofs.YtopnaijeicknoaaGreatDoor
