/- Functions of the program, each with what it gives back. -/
import Derived.Test.YtopnaijeicknoaaGreatDoorKe
import Derived.Test.YtopnaijeicknoaaGreatDoorChecked
import Derived.IntWalk
import Derived.Test.YtopnaijeicknoaaGreatDoorMa
namespace Go.Proofs.YtopnaijeicknoaaGreatDoor
open Go Go.RowKit Go.IntWalk
open Enc (sz cs)
attribute [local irreducible] IntKind.wrap

set_option maxRecDepth 100000 in
theorem tx86 {v : Vl} {n : Int} (hn : 0 ≤ n ∧ n ≤ 1000000000000 := by first | assumption | omega | (simp; done) | (simp; omega)) (hw : v.s.size ≤ 1000000000000000 := by first | assumption | omega | (simp; done) | (simp; omega)) : T 86 [.val true (vlC v), aI n] [vI (if n < ((v.s.size : Nat) : Int) then -1 else n - ((v.s.size : Nat) : Int))] [none, none] := by
  refine w_call md [] Tryz.func86 rfl ?_
  repeat' ((conv => whnf); (first | refine k0 ?_ | refine jA fun _ => ?_ | refine jB fun _ => ?_ | refine kC (fun _ => ?_) fun _ => ?_ | refine jst ?_ | exact ⟨rfl, rfl⟩ | exact jV | fail))

theorem cx86 {P : Program} {X : FuncId → List Arg → List (Bool × List Cell) → List (Option (List Cell)) → Prop} {a : List Arg} {Q : List (Bool × List Cell) → List (Option (List Cell)) → Prop} (h : ∃ b vals outs, a = b ∧ D P X (.call 86 b vals outs) ∧ Q vals outs) : CallS P X 86 a Q := ⟨h⟩

set_option maxRecDepth 100000 in
theorem tx39 {l : List Vl} {n : Int} (hn : 0 ≤ n ∧ n ≤ 1000000000000 := by first | assumption | omega | (simp; done) | (simp; omega)) (hl : l.length ≤ 100000000000000 := by first | assumption | omega | (simp; done) | (simp; omega)) (hel : ∀ x ∈ l, zVl x ≤ 1000000000000000 := by assumption) : T 39 [aE l, aI n] [vI (if n < ((l.length + cnt (zVl) l : Nat) : Int) then -1 else n - ((l.length + cnt (zVl) l : Nat) : Int))] [none, none] := by
  refine w_call md [] Tryz.func39 rfl ?_
  repeat' ((conv => whnf); (first | refine k0 ?_ | refine jA fun _ => ?_ | refine jB fun _ => ?_ | refine kC (fun _ => ?_) fun _ => ?_ | (apply cx86; refine kl tx86 ?_) | refine jst ?_ | exact ⟨rfl, rfl⟩ | exact jV | fail))
  conv => whnf
  refine loopk (ι := Nat) (fun i => i ≤ l.length ∧ (l.length + cnt (zVl) (l.take i) : Nat) ≤ n) (fun i => l.length - i) (0) [0] (fun i => [(1, .v false [i6 (n - (l.length + cnt (zVl) (l.take i) : Nat))]), (5, .v false [i6 i])]) [none, none] ?_
  refine ⟨⟨by omega, by simp [cnt]; omega⟩, ?_, fun i hi => ?_⟩
  · exact w_autoX [] (by (conv => whnf); exact And.intro (by kernel_rfl) (And.intro (by kernel_rfl) (by repeat' (first | (with_reducible exact rfl) | ((conv => whnf); first | exact trivial | exact tvi (by simp [cnt]) | exact rfl | exact tvi (by first | omega | (dsimp only; omega) | (simp; done)) | exact tvr (by first | omega | (dsimp only; omega) | (simp; done) | (simp; omega)) | exact ⟨rfl, clo_i, by first | rfl | rw [List.take_length] | assumption⟩ | refine And.intro ?_ ?_)))))
  · have hle := cnt_le (c := zVl) (xs := l) (i := i)
    refine ⟨fun hlt => ?_, fun hge => ?_⟩
    · have hi2 : i < l.length := by omega
      have hc := cnt_take (c := zVl) hi2
      have hle2 := cnt_le (c := zVl) (xs := l) (i := i + 1)
      have he := hel _ (List.getElem_mem hi2)
      simp only [zVl] at hc he
      repeat' ((conv => whnf); (first | refine k0 ?_ | refine jA fun _ => ?_ | refine jB fun _ => ?_ | refine kC (fun _ => ?_) fun _ => ?_ | (apply cx86; refine kl tx86 ?_) | refine jst ?_ | exact ⟨rfl, rfl⟩ | exact jV | fail))
      refine ⟨⟨i + 1, by omega, by omega⟩, by simp only; omega, ?_⟩
      dsimp only
      exact jw []
    · obtain rfl : i = l.length := by omega
      have e : cnt (zVl) (l.take l.length) = cnt (zVl) l := by rw [List.take_length]
      repeat' ((conv => whnf); (first | refine k0 ?_ | refine jA fun _ => ?_ | refine jB fun _ => ?_ | refine kC (fun _ => ?_) fun _ => ?_ | (apply cx86; refine kl tx86 ?_) | refine jst ?_ | exact ⟨rfl, rfl⟩ | exact jV | fail))

theorem cx39 {P : Program} {X : FuncId → List Arg → List (Bool × List Cell) → List (Option (List Cell)) → Prop} {a : List Arg} {Q : List (Bool × List Cell) → List (Option (List Cell)) → Prop} (h : ∃ b vals outs, a = b ∧ D P X (.call 39 b vals outs) ∧ Q vals outs) : CallS P X 39 a Q := ⟨h⟩

set_option maxRecDepth 100000 in
theorem tx100 {v : Cl} {n : Int} (hn : 0 ≤ n ∧ n ≤ 1000000000000 := by first | assumption | omega | (simp; done) | (simp; omega)) (hw : v.name.size ≤ 1000000000000000 := by first | assumption | omega | (simp; done) | (simp; omega)) : T 100 [.val true (coC v), aI n] [vI (if n < ((v.name.size : Nat) : Int) then -1 else n - ((v.name.size : Nat) : Int))] [none, none] := by
  refine w_call md [] Tryz.func100 rfl ?_
  repeat' ((conv => whnf); (first | refine k0 ?_ | refine jA fun _ => ?_ | refine jB fun _ => ?_ | refine kC (fun _ => ?_) fun _ => ?_ | refine jst ?_ | exact ⟨rfl, rfl⟩ | exact jV | fail))

theorem cx100 {P : Program} {X : FuncId → List Arg → List (Bool × List Cell) → List (Option (List Cell)) → Prop} {a : List Arg} {Q : List (Bool × List Cell) → List (Option (List Cell)) → Prop} (h : ∃ b vals outs, a = b ∧ D P X (.call 100 b vals outs) ∧ Q vals outs) : CallS P X 100 a Q := ⟨h⟩

set_option maxRecDepth 100000 in
theorem tx59 {l : List Cl} {n : Int} (hn : 0 ≤ n ∧ n ≤ 1000000000000 := by first | assumption | omega | (simp; done) | (simp; omega)) (hl : l.length ≤ 100000000000000 := by first | assumption | omega | (simp; done) | (simp; omega)) (hel : ∀ x ∈ l, zCl x ≤ 1000000000000000 := by assumption) : T 59 [aE l, aI n] [vI (if n < ((l.length + cnt (zCl) l : Nat) : Int) then -1 else n - ((l.length + cnt (zCl) l : Nat) : Int))] [none, none] := by
  refine w_call md [] Tryz.func59 rfl ?_
  repeat' ((conv => whnf); (first | refine k0 ?_ | refine jA fun _ => ?_ | refine jB fun _ => ?_ | refine kC (fun _ => ?_) fun _ => ?_ | (apply cx100; refine kl tx100 ?_) | refine jst ?_ | exact ⟨rfl, rfl⟩ | exact jV | fail))
  conv => whnf
  refine loopk (ι := Nat) (fun i => i ≤ l.length ∧ (l.length + cnt (zCl) (l.take i) : Nat) ≤ n) (fun i => l.length - i) (0) [0] (fun i => [(1, .v false [i6 (n - (l.length + cnt (zCl) (l.take i) : Nat))]), (5, .v false [i6 i])]) [none, none] ?_
  refine ⟨⟨by omega, by simp [cnt]; omega⟩, ?_, fun i hi => ?_⟩
  · exact w_autoX [] (by (conv => whnf); exact And.intro (by kernel_rfl) (And.intro (by kernel_rfl) (by repeat' (first | (with_reducible exact rfl) | ((conv => whnf); first | exact trivial | exact tvi (by simp [cnt]) | exact rfl | exact tvi (by first | omega | (dsimp only; omega) | (simp; done)) | exact tvr (by first | omega | (dsimp only; omega) | (simp; done) | (simp; omega)) | exact ⟨rfl, clo_i, by first | rfl | rw [List.take_length] | assumption⟩ | refine And.intro ?_ ?_)))))
  · have hle := cnt_le (c := zCl) (xs := l) (i := i)
    refine ⟨fun hlt => ?_, fun hge => ?_⟩
    · have hi2 : i < l.length := by omega
      have hc := cnt_take (c := zCl) hi2
      have hle2 := cnt_le (c := zCl) (xs := l) (i := i + 1)
      have he := hel _ (List.getElem_mem hi2)
      simp only [zCl] at hc he
      repeat' ((conv => whnf); (first | refine k0 ?_ | refine jA fun _ => ?_ | refine jB fun _ => ?_ | refine kC (fun _ => ?_) fun _ => ?_ | (apply cx100; refine kl tx100 ?_) | refine jst ?_ | exact ⟨rfl, rfl⟩ | exact jV | fail))
      refine ⟨⟨i + 1, by omega, by omega⟩, by simp only; omega, ?_⟩
      dsimp only
      exact jw []
    · obtain rfl : i = l.length := by omega
      have e : cnt (zCl) (l.take l.length) = cnt (zCl) l := by rw [List.take_length]
      repeat' ((conv => whnf); (first | refine k0 ?_ | refine jA fun _ => ?_ | refine jB fun _ => ?_ | refine kC (fun _ => ?_) fun _ => ?_ | (apply cx100; refine kl tx100 ?_) | refine jst ?_ | exact ⟨rfl, rfl⟩ | exact jV | fail))

theorem cx59 {P : Program} {X : FuncId → List Arg → List (Bool × List Cell) → List (Option (List Cell)) → Prop} {a : List Arg} {Q : List (Bool × List Cell) → List (Option (List Cell)) → Prop} (h : ∃ b vals outs, a = b ∧ D P X (.call 59 b vals outs) ∧ Q vals outs) : CallS P X 59 a Q := ⟨h⟩

set_option maxRecDepth 100000 in
theorem tx60 {l : List By} {n : Int} (hn : 0 ≤ n ∧ n ≤ 1000000000000 := by first | assumption | omega | (simp; done) | (simp; omega)) (hl : l.length ≤ 1000000000000000000 := by first | assumption | omega | (simp; done) | (simp; omega)) : T 60 [aE l, aI n] [vI (if n < (l.length : Int) then -1 else n - l.length)] [none, none] := by
  refine w_call md [] Tryz.func60 rfl ?_
  repeat' ((conv => whnf); (first | refine k0 ?_ | refine jA fun _ => ?_ | refine jB fun _ => ?_ | refine kC (fun _ => ?_) fun _ => ?_ | refine jst ?_ | exact ⟨rfl, rfl⟩ | exact jV | fail))

theorem cx60 {P : Program} {X : FuncId → List Arg → List (Bool × List Cell) → List (Option (List Cell)) → Prop} {a : List Arg} {Q : List (Bool × List Cell) → List (Option (List Cell)) → Prop} (h : ∃ b vals outs, a = b ∧ D P X (.call 60 b vals outs) ∧ Q vals outs) : CallS P X 60 a Q := ⟨h⟩

set_option maxRecDepth 100000 in
theorem tx101 {x : Ix} {n : Int} (hn : 0 ≤ n ∧ n ≤ 1000000000000 := by first | assumption | omega | (simp; done) | (simp; omega)) (hw : BdIx x := by first | assumption | omega | (simp; done) | (simp; omega)) : T 101 [.val true (ixC false x), aI n] [vI (if n < ((zIx x : Nat) : Int) then -1 else n - ((zIx x : Nat) : Int))] [none, none] := by
  refine w_call md [] Tryz.func101 rfl ?_
  obtain ⟨h1, h2⟩ := hw
  unfold zIx
  repeat' ((conv => whnf); (first | refine k0 ?_ | refine jA fun _ => ?_ | refine jB fun _ => ?_ | refine kC (fun _ => ?_) fun _ => ?_ | (apply cx60; refine kl tx60 ?_) | refine jst ?_ | exact ⟨rfl, rfl⟩ | exact jV | fail))

theorem cx101 {P : Program} {X : FuncId → List Arg → List (Bool × List Cell) → List (Option (List Cell)) → Prop} {a : List Arg} {Q : List (Bool × List Cell) → List (Option (List Cell)) → Prop} (h : ∃ b vals outs, a = b ∧ D P X (.call 101 b vals outs) ∧ Q vals outs) : CallS P X 101 a Q := ⟨h⟩

set_option maxRecDepth 100000 in
theorem tx61 {l : List Ix} {n : Int} (hn : 0 ≤ n ∧ n ≤ 1000000000000 := by first | assumption | omega | (simp; done) | (simp; omega)) (hl : l.length ≤ 100000000000000 := by first | assumption | omega | (simp; done) | (simp; omega)) (hel : ∀ x ∈ l, BdIx x := by assumption) : T 61 [aE l, aI n] [vI (if n < ((l.length + cnt (zIx) l : Nat) : Int) then -1 else n - ((l.length + cnt (zIx) l : Nat) : Int))] [none, none] := by
  refine w_call md [] Tryz.func61 rfl ?_
  repeat' ((conv => whnf); (first | refine k0 ?_ | refine jA fun _ => ?_ | refine jB fun _ => ?_ | refine kC (fun _ => ?_) fun _ => ?_ | (apply cx101; refine kl tx101 ?_) | refine jst ?_ | exact ⟨rfl, rfl⟩ | exact jV | fail))
  conv => whnf
  refine loopk (ι := Nat) (fun i => i ≤ l.length ∧ (l.length + cnt (zIx) (l.take i) : Nat) ≤ n) (fun i => l.length - i) (0) [0] (fun i => [(1, .v false [i6 (n - (l.length + cnt (zIx) (l.take i) : Nat))]), (5, .v false [i6 i])]) [none, none] ?_
  refine ⟨⟨by omega, by simp [cnt]; omega⟩, ?_, fun i hi => ?_⟩
  · exact w_autoX [] (by (conv => whnf); exact And.intro (by kernel_rfl) (And.intro (by kernel_rfl) (by repeat' (first | (with_reducible exact rfl) | ((conv => whnf); first | exact trivial | exact tvi (by simp [cnt]) | exact rfl | exact tvi (by first | omega | (dsimp only; omega) | (simp; done)) | exact tvr (by first | omega | (dsimp only; omega) | (simp; done) | (simp; omega)) | exact ⟨rfl, clo_i, by first | rfl | rw [List.take_length] | assumption⟩ | refine And.intro ?_ ?_)))))
  · have hle := cnt_le (c := zIx) (xs := l) (i := i)
    refine ⟨fun hlt => ?_, fun hge => ?_⟩
    · have hi2 : i < l.length := by omega
      have hc := cnt_take (c := zIx) hi2
      have hle2 := cnt_le (c := zIx) (xs := l) (i := i + 1)
      have he := hel _ (List.getElem_mem hi2)
      try dsimp only at hc
      repeat' ((conv => whnf); (first | refine k0 ?_ | refine jA fun _ => ?_ | refine jB fun _ => ?_ | refine kC (fun _ => ?_) fun _ => ?_ | (apply cx101; refine kl tx101 ?_) | refine jst ?_ | exact ⟨rfl, rfl⟩ | exact jV | fail))
      refine ⟨⟨i + 1, by omega, by omega⟩, by simp only; omega, ?_⟩
      dsimp only
      exact jw []
    · obtain rfl : i = l.length := by omega
      have e : cnt (zIx) (l.take l.length) = cnt (zIx) l := by rw [List.take_length]
      repeat' ((conv => whnf); (first | refine k0 ?_ | refine jA fun _ => ?_ | refine jB fun _ => ?_ | refine kC (fun _ => ?_) fun _ => ?_ | (apply cx101; refine kl tx101 ?_) | refine jst ?_ | exact ⟨rfl, rfl⟩ | exact jV | fail))

theorem cx61 {P : Program} {X : FuncId → List Arg → List (Bool × List Cell) → List (Option (List Cell)) → Prop} {a : List Arg} {Q : List (Bool × List Cell) → List (Option (List Cell)) → Prop} (h : ∃ b vals outs, a = b ∧ D P X (.call 61 b vals outs) ∧ Q vals outs) : CallS P X 61 a Q := ⟨h⟩

set_option maxRecDepth 100000 in
theorem tx29 {x : Df} {n : Int} (hn : 0 ≤ n ∧ n ≤ 1000000000000 := by first | assumption | omega | (simp; done) | (simp; omega)) (hw : BdDf x := by first | assumption | omega | (simp; done) | (simp; omega)) : T 29 [.val true (dfC false x), aI n] [vI (if n < ((zDf x : Nat) : Int) then -1 else n - ((zDf x : Nat) : Int))] [none, none] := by
  refine w_call md [] Tryz.func29 rfl ?_
  obtain ⟨h1, h2, h3, h4, h5, h6⟩ := hw
  unfold zDf
  repeat' ((conv => whnf); (first | refine k0 ?_ | refine jA fun _ => ?_ | refine jB fun _ => ?_ | refine kC (fun _ => ?_) fun _ => ?_ | (apply cx59; refine kl tx59 ?_) | (apply cx60; refine kl tx60 ?_) | (apply cx61; refine kl tx61 ?_) | refine jst ?_ | exact ⟨rfl, rfl⟩ | exact jV | fail))

theorem cx29 {P : Program} {X : FuncId → List Arg → List (Bool × List Cell) → List (Option (List Cell)) → Prop} {a : List Arg} {Q : List (Bool × List Cell) → List (Option (List Cell)) → Prop} (h : ∃ b vals outs, a = b ∧ D P X (.call 29 b vals outs) ∧ Q vals outs) : CallS P X 29 a Q := ⟨h⟩

set_option maxRecDepth 100000 in
theorem tx6 {l : List Df} {n : Int} (hn : 0 ≤ n ∧ n ≤ 1000000000000 := by first | assumption | omega | (simp; done) | (simp; omega)) (hl : l.length ≤ 100000000000000 := by first | assumption | omega | (simp; done) | (simp; omega)) (hel : ∀ x ∈ l, BdDf x := by assumption) : T 6 [aE l, aI n] [vI (if n < ((l.length + cnt (zDf) l : Nat) : Int) then -1 else n - ((l.length + cnt (zDf) l : Nat) : Int))] [none, none] := by
  refine w_call md [] Tryz.func6 rfl ?_
  repeat' ((conv => whnf); (first | refine k0 ?_ | refine jA fun _ => ?_ | refine jB fun _ => ?_ | refine kC (fun _ => ?_) fun _ => ?_ | (apply cx29; refine kl tx29 ?_) | refine jst ?_ | exact ⟨rfl, rfl⟩ | exact jV | fail))
  conv => whnf
  refine loopk (ι := Nat) (fun i => i ≤ l.length ∧ (l.length + cnt (zDf) (l.take i) : Nat) ≤ n) (fun i => l.length - i) (0) [0] (fun i => [(1, .v false [i6 (n - (l.length + cnt (zDf) (l.take i) : Nat))]), (5, .v false [i6 i])]) [none, none] ?_
  refine ⟨⟨by omega, by simp [cnt]; omega⟩, ?_, fun i hi => ?_⟩
  · exact w_autoX [] (by (conv => whnf); exact And.intro (by kernel_rfl) (And.intro (by kernel_rfl) (by repeat' (first | (with_reducible exact rfl) | ((conv => whnf); first | exact trivial | exact tvi (by simp [cnt]) | exact rfl | exact tvi (by first | omega | (dsimp only; omega) | (simp; done)) | exact tvr (by first | omega | (dsimp only; omega) | (simp; done) | (simp; omega)) | exact ⟨rfl, clo_i, by first | rfl | rw [List.take_length] | assumption⟩ | refine And.intro ?_ ?_)))))
  · have hle := cnt_le (c := zDf) (xs := l) (i := i)
    refine ⟨fun hlt => ?_, fun hge => ?_⟩
    · have hi2 : i < l.length := by omega
      have hc := cnt_take (c := zDf) hi2
      have hle2 := cnt_le (c := zDf) (xs := l) (i := i + 1)
      have he := hel _ (List.getElem_mem hi2)
      try dsimp only at hc
      repeat' ((conv => whnf); (first | refine k0 ?_ | refine jA fun _ => ?_ | refine jB fun _ => ?_ | refine kC (fun _ => ?_) fun _ => ?_ | (apply cx29; refine kl tx29 ?_) | refine jst ?_ | exact ⟨rfl, rfl⟩ | exact jV | fail))
      refine ⟨⟨i + 1, by omega, by omega⟩, by simp only; omega, ?_⟩
      dsimp only
      exact jw []
    · obtain rfl : i = l.length := by omega
      have e : cnt (zDf) (l.take l.length) = cnt (zDf) l := by rw [List.take_length]
      repeat' ((conv => whnf); (first | refine k0 ?_ | refine jA fun _ => ?_ | refine jB fun _ => ?_ | refine kC (fun _ => ?_) fun _ => ?_ | (apply cx29; refine kl tx29 ?_) | refine jst ?_ | exact ⟨rfl, rfl⟩ | exact jV | fail))

theorem cx6 {P : Program} {X : FuncId → List Arg → List (Bool × List Cell) → List (Option (List Cell)) → Prop} {a : List Arg} {Q : List (Bool × List Cell) → List (Option (List Cell)) → Prop} (h : ∃ b vals outs, a = b ∧ D P X (.call 6 b vals outs) ∧ Q vals outs) : CallS P X 6 a Q := ⟨h⟩

set_option maxRecDepth 100000 in
theorem tx102 {l : List (List Vl)} {n : Int} (hn : 0 ≤ n ∧ n ≤ 1000000000000 := by first | assumption | omega | (simp; done) | (simp; omega)) (hl : l.length ≤ 100000000000000 := by first | assumption | omega | (simp; done) | (simp; omega)) (hel : ∀ x ∈ l, BdRow x := by assumption) : T 102 [aE l, aI n] [vI (if n < ((l.length + cnt (zRow) l : Nat) : Int) then -1 else n - ((l.length + cnt (zRow) l : Nat) : Int))] [none, none] := by
  refine w_call md [] Tryz.func102 rfl ?_
  repeat' ((conv => whnf); (first | refine k0 ?_ | refine jA fun _ => ?_ | refine jB fun _ => ?_ | refine kC (fun _ => ?_) fun _ => ?_ | (apply cx39; refine kl tx39 ?_) | refine jst ?_ | exact ⟨rfl, rfl⟩ | exact jV | fail))
  conv => whnf
  refine loopk (ι := Nat) (fun i => i ≤ l.length ∧ (l.length + cnt (zRow) (l.take i) : Nat) ≤ n) (fun i => l.length - i) (0) [0] (fun i => [(1, .v false [i6 (n - (l.length + cnt (zRow) (l.take i) : Nat))]), (5, .v false [i6 i])]) [none, none] ?_
  refine ⟨⟨by omega, by simp [cnt]; omega⟩, ?_, fun i hi => ?_⟩
  · exact w_autoX [] (by (conv => whnf); exact And.intro (by kernel_rfl) (And.intro (by kernel_rfl) (by repeat' (first | (with_reducible exact rfl) | ((conv => whnf); first | exact trivial | exact tvi (by simp [cnt]) | exact rfl | exact tvi (by first | omega | (dsimp only; omega) | (simp; done)) | exact tvr (by first | omega | (dsimp only; omega) | (simp; done) | (simp; omega)) | exact ⟨rfl, clo_i, by first | rfl | rw [List.take_length] | assumption⟩ | refine And.intro ?_ ?_)))))
  · have hle := cnt_le (c := zRow) (xs := l) (i := i)
    refine ⟨fun hlt => ?_, fun hge => ?_⟩
    · have hi2 : i < l.length := by omega
      have hc := cnt_take (c := zRow) hi2
      have hle2 := cnt_le (c := zRow) (xs := l) (i := i + 1)
      have he := hel _ (List.getElem_mem hi2)
      simp only [zRow] at hc
      obtain ⟨he1, he2⟩ := he
      repeat' ((conv => whnf); (first | refine k0 ?_ | refine jA fun _ => ?_ | refine jB fun _ => ?_ | refine kC (fun _ => ?_) fun _ => ?_ | (apply cx39; refine kl tx39 ?_) | refine jst ?_ | exact ⟨rfl, rfl⟩ | exact jV | fail))
      refine ⟨⟨i + 1, by omega, by omega⟩, by simp only; omega, ?_⟩
      dsimp only
      exact jw []
    · obtain rfl : i = l.length := by omega
      have e : cnt (zRow) (l.take l.length) = cnt (zRow) l := by rw [List.take_length]
      repeat' ((conv => whnf); (first | refine k0 ?_ | refine jA fun _ => ?_ | refine jB fun _ => ?_ | refine kC (fun _ => ?_) fun _ => ?_ | (apply cx39; refine kl tx39 ?_) | refine jst ?_ | exact ⟨rfl, rfl⟩ | exact jV | fail))

theorem cx102 {P : Program} {X : FuncId → List Arg → List (Bool × List Cell) → List (Option (List Cell)) → Prop} {a : List Arg} {Q : List (Bool × List Cell) → List (Option (List Cell)) → Prop} (h : ∃ b vals outs, a = b ∧ D P X (.call 102 b vals outs) ∧ Q vals outs) : CallS P X 102 a Q := ⟨h⟩

set_option maxRecDepth 100000 in
theorem tx62 {t : List (List Vl)} {n : Int} (hn : 0 ≤ n ∧ n ≤ 1000000000000 := by first | assumption | omega | (simp; done) | (simp; omega)) (ht : BdTb t := by first | assumption | omega | (simp; done) | (simp; omega)) : T 62 [.val true [slE false t], aI n] [vI (if n < ((zTab t : Nat) : Int) then -1 else n - ((zTab t : Nat) : Int))] [none, none] := by
  refine w_call md [] Tryz.func62 rfl ?_
  obtain ⟨h1, h2⟩ := ht
  unfold zTab
  repeat' ((conv => whnf); (first | refine k0 ?_ | refine jA fun _ => ?_ | refine jB fun _ => ?_ | refine kC (fun _ => ?_) fun _ => ?_ | (apply cx102; refine kl tx102 ?_) | refine jst ?_ | exact ⟨rfl, rfl⟩ | exact jV | fail))

theorem cx62 {P : Program} {X : FuncId → List Arg → List (Bool × List Cell) → List (Option (List Cell)) → Prop} {a : List Arg} {Q : List (Bool × List Cell) → List (Option (List Cell)) → Prop} (h : ∃ b vals outs, a = b ∧ D P X (.call 62 b vals outs) ∧ Q vals outs) : CallS P X 62 a Q := ⟨h⟩

set_option maxRecDepth 100000 in
theorem tx30 {l : List (List (List Vl))} {n : Int} (hn : 0 ≤ n ∧ n ≤ 1000000000000 := by first | assumption | omega | (simp; done) | (simp; omega)) (hl : l.length ≤ 100000000000000 := by first | assumption | omega | (simp; done) | (simp; omega)) (hel : ∀ x ∈ l, BdTb x := by assumption) : T 30 [aE l, aI n] [vI (if n < ((l.length + cnt (zTab) l : Nat) : Int) then -1 else n - ((l.length + cnt (zTab) l : Nat) : Int))] [none, none] := by
  refine w_call md [] Tryz.func30 rfl ?_
  repeat' ((conv => whnf); (first | refine k0 ?_ | refine jA fun _ => ?_ | refine jB fun _ => ?_ | refine kC (fun _ => ?_) fun _ => ?_ | (apply cx62; refine kl tx62 ?_) | refine jst ?_ | exact ⟨rfl, rfl⟩ | exact jV | fail))
  conv => whnf
  refine loopk (ι := Nat) (fun i => i ≤ l.length ∧ (l.length + cnt (zTab) (l.take i) : Nat) ≤ n) (fun i => l.length - i) (0) [0] (fun i => [(1, .v false [i6 (n - (l.length + cnt (zTab) (l.take i) : Nat))]), (5, .v false [i6 i])]) [none, none] ?_
  refine ⟨⟨by omega, by simp [cnt]; omega⟩, ?_, fun i hi => ?_⟩
  · exact w_autoX [] (by (conv => whnf); exact And.intro (by kernel_rfl) (And.intro (by kernel_rfl) (by repeat' (first | (with_reducible exact rfl) | ((conv => whnf); first | exact trivial | exact tvi (by simp [cnt]) | exact rfl | exact tvi (by first | omega | (dsimp only; omega) | (simp; done)) | exact tvr (by first | omega | (dsimp only; omega) | (simp; done) | (simp; omega)) | exact ⟨rfl, clo_i, by first | rfl | rw [List.take_length] | assumption⟩ | refine And.intro ?_ ?_)))))
  · have hle := cnt_le (c := zTab) (xs := l) (i := i)
    refine ⟨fun hlt => ?_, fun hge => ?_⟩
    · have hi2 : i < l.length := by omega
      have hc := cnt_take (c := zTab) hi2
      have hle2 := cnt_le (c := zTab) (xs := l) (i := i + 1)
      have he := hel _ (List.getElem_mem hi2)
      try dsimp only at hc
      repeat' ((conv => whnf); (first | refine k0 ?_ | refine jA fun _ => ?_ | refine jB fun _ => ?_ | refine kC (fun _ => ?_) fun _ => ?_ | (apply cx62; refine kl tx62 ?_) | refine jst ?_ | exact ⟨rfl, rfl⟩ | exact jV | fail))
      refine ⟨⟨i + 1, by omega, by omega⟩, by simp only; omega, ?_⟩
      dsimp only
      exact jw []
    · obtain rfl : i = l.length := by omega
      have e : cnt (zTab) (l.take l.length) = cnt (zTab) l := by rw [List.take_length]
      repeat' ((conv => whnf); (first | refine k0 ?_ | refine jA fun _ => ?_ | refine jB fun _ => ?_ | refine kC (fun _ => ?_) fun _ => ?_ | (apply cx62; refine kl tx62 ?_) | refine jst ?_ | exact ⟨rfl, rfl⟩ | exact jV | fail))

theorem cx30 {P : Program} {X : FuncId → List Arg → List (Bool × List Cell) → List (Option (List Cell)) → Prop} {a : List Arg} {Q : List (Bool × List Cell) → List (Option (List Cell)) → Prop} (h : ∃ b vals outs, a = b ∧ D P X (.call 30 b vals outs) ∧ Q vals outs) : CallS P X 30 a Q := ⟨h⟩

set_option maxRecDepth 100000 in
theorem tx7 {m : List (List (List Vl))} {n : Int} (hn : 0 ≤ n ∧ n ≤ 1000000000000 := by first | assumption | omega | (simp; done) | (simp; omega)) (hm : BdMdb m := by first | assumption | omega | (simp; done) | (simp; omega)) : T 7 [.val true [slE false m], aI n] [vI (if n < ((zMdb m : Nat) : Int) then -1 else n - ((zMdb m : Nat) : Int))] [none, none] := by
  refine w_call md [] Tryz.func7 rfl ?_
  obtain ⟨h1, h2⟩ := hm
  unfold zMdb
  repeat' ((conv => whnf); (first | refine k0 ?_ | refine jA fun _ => ?_ | refine jB fun _ => ?_ | refine kC (fun _ => ?_) fun _ => ?_ | (apply cx30; refine kl tx30 ?_) | refine jst ?_ | exact ⟨rfl, rfl⟩ | exact jV | fail))

theorem cx7 {P : Program} {X : FuncId → List Arg → List (Bool × List Cell) → List (Option (List Cell)) → Prop} {a : List Arg} {Q : List (Bool × List Cell) → List (Option (List Cell)) → Prop} (h : ∃ b vals outs, a = b ∧ D P X (.call 7 b vals outs) ∧ Q vals outs) : CallS P X 7 a Q := ⟨h⟩

end Go.Proofs.YtopnaijeicknoaaGreatDoor
