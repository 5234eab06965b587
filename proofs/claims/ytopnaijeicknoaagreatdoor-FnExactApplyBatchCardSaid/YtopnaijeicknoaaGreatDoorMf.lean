/- Functions of the program, each with what it gives back. -/
import Derived.Test.YtopnaijeicknoaaGreatDoorKe
import Derived.Test.YtopnaijeicknoaaGreatDoorChecked
import Derived.IntWalk
import Derived.Test.YtopnaijeicknoaaGreatDoorMe
namespace Go.Proofs.YtopnaijeicknoaaGreatDoor
open Go Go.RowKit Go.IntWalk
open Enc (sz cs)
attribute [local irreducible] IntKind.wrap

set_option maxRecDepth 100000 in
theorem tx137 {l : List Vl} {a : Nat} (hl : l.length ≤ 10000000 := by first | assumption | omega | (simp; done) | (simp; omega)) (ha : a + 3 * l.length ≤ 1000000000000000000 := by first | assumption | omega | (simp; done) | (simp; omega)) {n : Nat} (hn : l.length = n := by first | rfl | simp) : T 137 [.val false [.sl false n (sz Vl) (cs false (mkL (fun _ => 3) mV a l))], aI (a : Nat)] [vI (a + 3 * l.length : Nat)] [none, none] := by
  refine w_call md [] Tryz.func137 rfl ?_
  have hlen : (mkL (fun _ => 3) mV a l).length = l.length := mkL_len
  have htot : cnt (fun _ => 3) l = 3 * l.length := by first | rfl | exact cnt_const _ _
  repeat' ((conv => whnf); (first | refine k0 ?_ | refine jA fun _ => ?_ | refine jB fun _ => ?_ | refine kC (fun _ => ?_) fun _ => ?_ | (apply cx52; refine kl tx52 ?_) | refine jst ?_ | exact ⟨rfl, rfl⟩ | exact jV | fail))
  conv => whnf
  refine loopk (ι := Nat) (fun i => i ≤ l.length) (fun i => l.length - i) (0) [0] (fun i => [(1, .v false [i6 (a + cnt (fun _ => 3) (l.take i) : Nat)]), (5, .v false [i6 i])]) [none, none] ?_
  refine ⟨by omega, ?_, fun i hi => ?_⟩
  · exact jw []
  · have hle := cnt_le (c := (fun _ => 3)) (xs := l) (i := i)
    refine ⟨fun hlt => ?_, fun hge => ?_⟩
    · have hi2 : i < l.length := by omega
      have hc := cnt_take (c := (fun _ => 3)) hi2
      have hle2 := cnt_le (c := (fun _ => 3)) (xs := l) (i := i + 1)
      try dsimp only at hc
      skip
      repeat' ((conv => whnf); (first | refine And.intro ⟨by omega, by omega⟩ (Exists.intro _ (And.intro ((rd (by omega)).trans (by rw [mkL_get hi2])) ?_)) | refine k0 ?_ | refine jA fun _ => ?_ | refine jB fun _ => ?_ | refine kC (fun _ => ?_) fun _ => ?_ | (apply cx52; refine kl tx52 ?_) | refine jst ?_ | exact ⟨rfl, rfl⟩ | exact jV | fail))
      refine ⟨⟨i + 1, by omega⟩, by simp only; omega, ?_⟩
      dsimp only
      exact jw []
    · obtain rfl : i = l.length := by omega
      have e : cnt (fun _ => 3) (l.take l.length) = cnt (fun _ => 3) l := by rw [List.take_length]
      repeat' ((conv => whnf); (first | refine k0 ?_ | refine jA fun _ => ?_ | refine jB fun _ => ?_ | refine kC (fun _ => ?_) fun _ => ?_ | (apply cx52; refine kl tx52 ?_) | refine jst ?_ | exact ⟨rfl, rfl⟩ | exact jV | fail))

theorem cx137 {P : Program} {X : FuncId → List Arg → List (Bool × List Cell) → List (Option (List Cell)) → Prop} {a : List Arg} {Q : List (Bool × List Cell) → List (Option (List Cell)) → Prop} (h : ∃ b vals outs, a = b ∧ D P X (.call 137 b vals outs) ∧ Q vals outs) : CallS P X 137 a Q := ⟨h⟩

set_option maxRecDepth 100000 in
theorem tx99 {l : List (List Vl)} {a : Nat} (hl : l.length ≤ 10000000 := by first | assumption | omega | (simp; done) | (simp; omega)) (hel : ∀ x ∈ l, x.length ≤ 10000000 := by assumption) (ha : a + cnt cR l ≤ 1000000000000000000 := by first | assumption | omega | (simp; done) | (simp; omega)) {n : Nat} (hn : l.length = n := by first | rfl | simp) : T 99 [.val false [.sl false n (sz (List Vl)) (cs false (mkL cR mR a l))], aI (a : Nat)] [vI (a + cnt cR l : Nat)] [none, none] := by
  refine w_call md [] Tryz.func99 rfl ?_
  have hlen : (mkL cR mR a l).length = l.length := mkL_len
  have htot : cnt cR l = cnt cR l := by first | rfl | exact cnt_const _ _
  repeat' ((conv => whnf); (first | refine k0 ?_ | refine jA fun _ => ?_ | refine jB fun _ => ?_ | refine kC (fun _ => ?_) fun _ => ?_ | (apply cx137; refine kl tx137 ?_) | refine jst ?_ | exact ⟨rfl, rfl⟩ | exact jV | fail))
  conv => whnf
  refine loopk (ι := Nat) (fun i => i ≤ l.length) (fun i => l.length - i) (0) [0] (fun i => [(1, .v false [i6 (a + cnt cR (l.take i) : Nat)]), (5, .v false [i6 i])]) [none, none] ?_
  refine ⟨by omega, ?_, fun i hi => ?_⟩
  · exact jw []
  · have hle := cnt_le (c := cR) (xs := l) (i := i)
    refine ⟨fun hlt => ?_, fun hge => ?_⟩
    · have hi2 : i < l.length := by omega
      have hc := cnt_take (c := cR) hi2
      have hle2 := cnt_le (c := cR) (xs := l) (i := i + 1)
      try dsimp only at hc
      have hcw : cR l[i] = 3 * l[i].length := rfl
      have hel := hel _ (List.getElem_mem hi2)
      repeat' ((conv => whnf); (first | refine And.intro ⟨by omega, by omega⟩ (Exists.intro _ (And.intro ((rd (by omega)).trans (by rw [mkL_get hi2])) ?_)) | refine k0 ?_ | refine jA fun _ => ?_ | refine jB fun _ => ?_ | refine kC (fun _ => ?_) fun _ => ?_ | (apply cx137; refine kl tx137 ?_) | refine jst ?_ | exact ⟨rfl, rfl⟩ | exact jV | fail))
      refine ⟨⟨i + 1, by omega⟩, by simp only; omega, ?_⟩
      dsimp only
      exact jw []
    · obtain rfl : i = l.length := by omega
      have e : cnt cR (l.take l.length) = cnt cR l := by rw [List.take_length]
      repeat' ((conv => whnf); (first | refine k0 ?_ | refine jA fun _ => ?_ | refine jB fun _ => ?_ | refine kC (fun _ => ?_) fun _ => ?_ | (apply cx137; refine kl tx137 ?_) | refine jst ?_ | exact ⟨rfl, rfl⟩ | exact jV | fail))

theorem cx99 {P : Program} {X : FuncId → List Arg → List (Bool × List Cell) → List (Option (List Cell)) → Prop} {a : List Arg} {Q : List (Bool × List Cell) → List (Option (List Cell)) → Prop} (h : ∃ b vals outs, a = b ∧ D P X (.call 99 b vals outs) ∧ Q vals outs) : CallS P X 99 a Q := ⟨h⟩

set_option maxRecDepth 100000 in
theorem tx58 {l : List (List (List Vl))} {a : Nat} (hl : l.length ≤ 10000000 := by first | assumption | omega | (simp; done) | (simp; omega)) (hel : ∀ x ∈ l, OkTb x := by assumption) (ha : a + cnt cTb l ≤ 1000000000000000000 := by first | assumption | omega | (simp; done) | (simp; omega)) {n : Nat} (hn : l.length = n := by first | rfl | simp) : T 58 [.val false [.sl false n (sz (List (List Vl))) (cs false (mkL cTb mTb a l))], aI (a : Nat)] [vI (a + cnt cTb l : Nat)] [none, none] := by
  refine w_call md [] Tryz.func58 rfl ?_
  have hlen : (mkL cTb mTb a l).length = l.length := mkL_len
  have htot : cnt cTb l = cnt cTb l := by first | rfl | exact cnt_const _ _
  repeat' ((conv => whnf); (first | refine k0 ?_ | refine jA fun _ => ?_ | refine jB fun _ => ?_ | refine kC (fun _ => ?_) fun _ => ?_ | (apply cx99; refine kl tx99 ?_) | refine jst ?_ | exact ⟨rfl, rfl⟩ | exact jV | fail))
  conv => whnf
  refine loopk (ι := Nat) (fun i => i ≤ l.length) (fun i => l.length - i) (0) [0] (fun i => [(1, .v false [i6 (a + cnt cTb (l.take i) : Nat)]), (5, .v false [i6 i])]) [none, none] ?_
  refine ⟨by omega, ?_, fun i hi => ?_⟩
  · exact jw []
  · have hle := cnt_le (c := cTb) (xs := l) (i := i)
    refine ⟨fun hlt => ?_, fun hge => ?_⟩
    · have hi2 : i < l.length := by omega
      have hc := cnt_take (c := cTb) hi2
      have hle2 := cnt_le (c := cTb) (xs := l) (i := i + 1)
      try dsimp only at hc
      have hcw : cTb l[i] = cnt cR l[i] := rfl
      obtain ⟨hel1, hel2⟩ := hel _ (List.getElem_mem hi2)
      repeat' ((conv => whnf); (first | refine And.intro ⟨by omega, by omega⟩ (Exists.intro _ (And.intro ((rd (by omega)).trans (by rw [mkL_get hi2])) ?_)) | refine k0 ?_ | refine jA fun _ => ?_ | refine jB fun _ => ?_ | refine kC (fun _ => ?_) fun _ => ?_ | (apply cx99; refine kl tx99 ?_) | refine jst ?_ | exact ⟨rfl, rfl⟩ | exact jV | fail))
      refine ⟨⟨i + 1, by omega⟩, by simp only; omega, ?_⟩
      dsimp only
      exact jw []
    · obtain rfl : i = l.length := by omega
      have e : cnt cTb (l.take l.length) = cnt cTb l := by rw [List.take_length]
      repeat' ((conv => whnf); (first | refine k0 ?_ | refine jA fun _ => ?_ | refine jB fun _ => ?_ | refine kC (fun _ => ?_) fun _ => ?_ | (apply cx99; refine kl tx99 ?_) | refine jst ?_ | exact ⟨rfl, rfl⟩ | exact jV | fail))

theorem cx58 {P : Program} {X : FuncId → List Arg → List (Bool × List Cell) → List (Option (List Cell)) → Prop} {a : List Arg} {Q : List (Bool × List Cell) → List (Option (List Cell)) → Prop} (h : ∃ b vals outs, a = b ∧ D P X (.call 58 b vals outs) ∧ Q vals outs) : CallS P X 58 a Q := ⟨h⟩

set_option maxRecDepth 100000 in
theorem tx22 {m : List (List (List Vl))} {a : Nat} (hl : m.length ≤ 10000000 := by first | assumption | omega | (simp; done) | (simp; omega)) (hm : ∀ x ∈ m, OkTb x := by first | assumption | omega | (simp; done) | (simp; omega)) (ha : a + cnt cTb m ≤ 1000000000000000000 := by first | assumption | omega | (simp; done) | (simp; omega)) : T 22 [.val true [.sl false m.length 1 (cs false (mkL cTb mTb a m))], aI (a : Nat)] [vI (a + cnt cTb m : Nat)] [none, none] := by
  refine w_call md [] Tryz.func22 rfl ?_
  repeat' ((conv => whnf); (first | refine k0 ?_ | refine jA fun _ => ?_ | refine jB fun _ => ?_ | refine kC (fun _ => ?_) fun _ => ?_ | (apply cx58; refine kl tx58 ?_) | refine jst ?_ | exact ⟨rfl, rfl⟩ | exact jV | fail))

theorem cx22 {P : Program} {X : FuncId → List Arg → List (Bool × List Cell) → List (Option (List Cell)) → Prop} {a : List Arg} {Q : List (Bool × List Cell) → List (Option (List Cell)) → Prop} (h : ∃ b vals outs, a = b ∧ D P X (.call 22 b vals outs) ∧ Q vals outs) : CallS P X 22 a Q := ⟨h⟩

end Go.Proofs.YtopnaijeicknoaaGreatDoor
