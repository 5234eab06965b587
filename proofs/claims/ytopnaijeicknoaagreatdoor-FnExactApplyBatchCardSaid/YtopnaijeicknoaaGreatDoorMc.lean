/- Functions of the program, each with what it gives back. -/
import Derived.Test.YtopnaijeicknoaaGreatDoorKe
import Derived.Test.YtopnaijeicknoaaGreatDoorChecked
import Derived.IntWalk
import Derived.Test.YtopnaijeicknoaaGreatDoorMa
namespace Go.Proofs.YtopnaijeicknoaaGreatDoor
open Go Go.RowKit Go.IntWalk
open Enc (sz cs)
attribute [local irreducible] IntKind.wrap

set_option maxRecDepth 100000 in
theorem tx97 {v : Vl} : T 97 [.val true (vlC v), .val true (vlC v)] [vB true] [none, none] := by
  refine w_call md [] Tryz.func97 rfl ?_
  repeat' ((conv => whnf); (first | refine k0 ?_ | refine jA fun _ => ?_ | refine jB fun _ => ?_ | refine kC (fun _ => ?_) fun _ => ?_ | refine jst ?_ | exact ⟨rfl, rfl⟩ | exact jV | fail))

theorem cx97 {P : Program} {X : FuncId → List Arg → List (Bool × List Cell) → List (Option (List Cell)) → Prop} {a : List Arg} {Q : List (Bool × List Cell) → List (Option (List Cell)) → Prop} (h : ∃ b vals outs, a = b ∧ D P X (.call 97 b vals outs) ∧ Q vals outs) : CallS P X 97 a Q := ⟨h⟩

set_option maxRecDepth 100000 in
theorem tx51 {l : List Vl} (hl : l.length ≤ 1000000000000 := by first | assumption | omega | (simp; done) | (simp; omega)) : T 51 [aE l, aE l] [vB true] [none, none] := by
  refine w_call md [] Tryz.func51 rfl ?_
  repeat' ((conv => whnf); (first | refine k0 ?_ | refine jA fun _ => ?_ | refine jB fun _ => ?_ | refine kC (fun _ => ?_) fun _ => ?_ | (apply cx97; refine kl tx97 ?_) | refine jst ?_ | exact ⟨rfl, rfl⟩ | exact jV | fail))
  conv => whnf
  refine loopk (ι := Nat) (fun i => i ≤ l.length) (fun i => l.length - i) (0) [0, 1] (fun i => [(5, .v false [i6 i])]) [none, none] ?_
  refine ⟨by omega, ?_, fun i hi => ?_⟩
  · exact jw []
  · refine ⟨fun hlt => ?_, fun hge => ?_⟩
    · have hi2 : i < l.length := by omega
      repeat' ((conv => whnf); (first | refine k0 ?_ | refine jA fun _ => ?_ | refine jB fun _ => ?_ | refine kC (fun _ => ?_) fun _ => ?_ | (apply cx97; refine kl tx97 ?_) | refine jst ?_ | exact ⟨rfl, rfl⟩ | exact jV | fail))
      refine ⟨⟨i + 1, by omega⟩, by simp only; omega, ?_⟩
      exact jw []
    · repeat' ((conv => whnf); (first | refine k0 ?_ | refine jA fun _ => ?_ | refine jB fun _ => ?_ | refine kC (fun _ => ?_) fun _ => ?_ | (apply cx97; refine kl tx97 ?_) | refine jst ?_ | exact ⟨rfl, rfl⟩ | exact jV | fail))

theorem cx51 {P : Program} {X : FuncId → List Arg → List (Bool × List Cell) → List (Option (List Cell)) → Prop} {a : List Arg} {Q : List (Bool × List Cell) → List (Option (List Cell)) → Prop} (h : ∃ b vals outs, a = b ∧ D P X (.call 51 b vals outs) ∧ Q vals outs) : CallS P X 51 a Q := ⟨h⟩

set_option maxRecDepth 100000 in
theorem tx132 {v : Cl} : T 132 [.val true (coC v), .val true (coC v)] [vB true] [none, none] := by
  obtain ⟨n, t, q⟩ := v
  refine w_call md [] Tryz.func132 rfl ?_
  cases q
  · repeat' ((conv => whnf); (first | refine k0 ?_ | refine jA fun _ => ?_ | refine jB fun _ => ?_ | refine kC (fun _ => ?_) fun _ => ?_ | refine jst ?_ | exact ⟨rfl, rfl⟩ | exact jV | fail))
  · repeat' ((conv => whnf); (first | refine k0 ?_ | refine jA fun _ => ?_ | refine jB fun _ => ?_ | refine kC (fun _ => ?_) fun _ => ?_ | refine jst ?_ | exact ⟨rfl, rfl⟩ | exact jV | fail))

theorem cx132 {P : Program} {X : FuncId → List Arg → List (Bool × List Cell) → List (Option (List Cell)) → Prop} {a : List Arg} {Q : List (Bool × List Cell) → List (Option (List Cell)) → Prop} (h : ∃ b vals outs, a = b ∧ D P X (.call 132 b vals outs) ∧ Q vals outs) : CallS P X 132 a Q := ⟨h⟩

set_option maxRecDepth 100000 in
theorem tx82 {l : List Cl} (hl : l.length ≤ 1000000000000 := by first | assumption | omega | (simp; done) | (simp; omega)) : T 82 [aE l, aE l] [vB true] [none, none] := by
  refine w_call md [] Tryz.func82 rfl ?_
  repeat' ((conv => whnf); (first | refine k0 ?_ | refine jA fun _ => ?_ | refine jB fun _ => ?_ | refine kC (fun _ => ?_) fun _ => ?_ | (apply cx132; refine kl tx132 ?_) | refine jst ?_ | exact ⟨rfl, rfl⟩ | exact jV | fail))
  conv => whnf
  refine loopk (ι := Nat) (fun i => i ≤ l.length) (fun i => l.length - i) (0) [0, 1] (fun i => [(5, .v false [i6 i])]) [none, none] ?_
  refine ⟨by omega, ?_, fun i hi => ?_⟩
  · exact jw []
  · refine ⟨fun hlt => ?_, fun hge => ?_⟩
    · have hi2 : i < l.length := by omega
      repeat' ((conv => whnf); (first | refine k0 ?_ | refine jA fun _ => ?_ | refine jB fun _ => ?_ | refine kC (fun _ => ?_) fun _ => ?_ | (apply cx132; refine kl tx132 ?_) | refine jst ?_ | exact ⟨rfl, rfl⟩ | exact jV | fail))
      refine ⟨⟨i + 1, by omega⟩, by simp only; omega, ?_⟩
      exact jw []
    · repeat' ((conv => whnf); (first | refine k0 ?_ | refine jA fun _ => ?_ | refine jB fun _ => ?_ | refine kC (fun _ => ?_) fun _ => ?_ | (apply cx132; refine kl tx132 ?_) | refine jst ?_ | exact ⟨rfl, rfl⟩ | exact jV | fail))

theorem cx82 {P : Program} {X : FuncId → List Arg → List (Bool × List Cell) → List (Option (List Cell)) → Prop} {a : List Arg} {Q : List (Bool × List Cell) → List (Option (List Cell)) → Prop} (h : ∃ b vals outs, a = b ∧ D P X (.call 82 b vals outs) ∧ Q vals outs) : CallS P X 82 a Q := ⟨h⟩

set_option maxRecDepth 100000 in
theorem tx133 {v : By} : T 133 [.val true (bpC v), .val true (bpC v)] [vB true] [none, none] := by
  obtain ⟨t, q⟩ := v
  refine w_call md [] Tryz.func133 rfl ?_
  cases q
  · repeat' ((conv => whnf); (first | refine k0 ?_ | refine jA fun _ => ?_ | refine jB fun _ => ?_ | refine kC (fun _ => ?_) fun _ => ?_ | refine jst ?_ | exact ⟨rfl, rfl⟩ | exact jV | fail))
  · repeat' ((conv => whnf); (first | refine k0 ?_ | refine jA fun _ => ?_ | refine jB fun _ => ?_ | refine kC (fun _ => ?_) fun _ => ?_ | refine jst ?_ | exact ⟨rfl, rfl⟩ | exact jV | fail))

theorem cx133 {P : Program} {X : FuncId → List Arg → List (Bool × List Cell) → List (Option (List Cell)) → Prop} {a : List Arg} {Q : List (Bool × List Cell) → List (Option (List Cell)) → Prop} (h : ∃ b vals outs, a = b ∧ D P X (.call 133 b vals outs) ∧ Q vals outs) : CallS P X 133 a Q := ⟨h⟩

set_option maxRecDepth 100000 in
theorem tx83 {l : List By} (hl : l.length ≤ 1000000000000 := by first | assumption | omega | (simp; done) | (simp; omega)) : T 83 [aE l, aE l] [vB true] [none, none] := by
  refine w_call md [] Tryz.func83 rfl ?_
  repeat' ((conv => whnf); (first | refine k0 ?_ | refine jA fun _ => ?_ | refine jB fun _ => ?_ | refine kC (fun _ => ?_) fun _ => ?_ | (apply cx133; refine kl tx133 ?_) | refine jst ?_ | exact ⟨rfl, rfl⟩ | exact jV | fail))
  conv => whnf
  refine loopk (ι := Nat) (fun i => i ≤ l.length) (fun i => l.length - i) (0) [0, 1] (fun i => [(5, .v false [i6 i])]) [none, none] ?_
  refine ⟨by omega, ?_, fun i hi => ?_⟩
  · exact jw []
  · refine ⟨fun hlt => ?_, fun hge => ?_⟩
    · have hi2 : i < l.length := by omega
      repeat' ((conv => whnf); (first | refine k0 ?_ | refine jA fun _ => ?_ | refine jB fun _ => ?_ | refine kC (fun _ => ?_) fun _ => ?_ | (apply cx133; refine kl tx133 ?_) | refine jst ?_ | exact ⟨rfl, rfl⟩ | exact jV | fail))
      refine ⟨⟨i + 1, by omega⟩, by simp only; omega, ?_⟩
      exact jw []
    · repeat' ((conv => whnf); (first | refine k0 ?_ | refine jA fun _ => ?_ | refine jB fun _ => ?_ | refine kC (fun _ => ?_) fun _ => ?_ | (apply cx133; refine kl tx133 ?_) | refine jst ?_ | exact ⟨rfl, rfl⟩ | exact jV | fail))

theorem cx83 {P : Program} {X : FuncId → List Arg → List (Bool × List Cell) → List (Option (List Cell)) → Prop} {a : List Arg} {Q : List (Bool × List Cell) → List (Option (List Cell)) → Prop} (h : ∃ b vals outs, a = b ∧ D P X (.call 83 b vals outs) ∧ Q vals outs) : CallS P X 83 a Q := ⟨h⟩

set_option maxRecDepth 100000 in
theorem tx134 {x : Ix} (hx : x.parts.length ≤ 1000000000000 := by first | assumption | omega | (simp; done) | (simp; omega)) : T 134 [.val true (ixC false x), .val true (ixC false x)] [vB true] [none, none] := by
  obtain ⟨n, q, p⟩ := x
  simp only at hx
  refine w_call md [] Tryz.func134 rfl ?_
  cases q
  · repeat' ((conv => whnf); (first | refine k0 ?_ | refine jA fun _ => ?_ | refine jB fun _ => ?_ | refine kC (fun _ => ?_) fun _ => ?_ | (apply cx83; refine kl tx83 ?_) | refine jst ?_ | exact ⟨rfl, rfl⟩ | exact jV | fail))
  · repeat' ((conv => whnf); (first | refine k0 ?_ | refine jA fun _ => ?_ | refine jB fun _ => ?_ | refine kC (fun _ => ?_) fun _ => ?_ | (apply cx83; refine kl tx83 ?_) | refine jst ?_ | exact ⟨rfl, rfl⟩ | exact jV | fail))

theorem cx134 {P : Program} {X : FuncId → List Arg → List (Bool × List Cell) → List (Option (List Cell)) → Prop} {a : List Arg} {Q : List (Bool × List Cell) → List (Option (List Cell)) → Prop} (h : ∃ b vals outs, a = b ∧ D P X (.call 134 b vals outs) ∧ Q vals outs) : CallS P X 134 a Q := ⟨h⟩

set_option maxRecDepth 100000 in
theorem tx84 {l : List Ix} (hl : l.length ≤ 1000000000000 := by first | assumption | omega | (simp; done) | (simp; omega)) (hel : ∀ x ∈ l, x.parts.length ≤ 1000000000000 := by assumption) : T 84 [aE l, aE l] [vB true] [none, none] := by
  refine w_call md [] Tryz.func84 rfl ?_
  repeat' ((conv => whnf); (first | refine k0 ?_ | refine jA fun _ => ?_ | refine jB fun _ => ?_ | refine kC (fun _ => ?_) fun _ => ?_ | (apply cx134; refine kl tx134 ?_) | refine jst ?_ | exact ⟨rfl, rfl⟩ | exact jV | fail))
  conv => whnf
  refine loopk (ι := Nat) (fun i => i ≤ l.length) (fun i => l.length - i) (0) [0, 1] (fun i => [(5, .v false [i6 i])]) [none, none] ?_
  refine ⟨by omega, ?_, fun i hi => ?_⟩
  · exact jw []
  · refine ⟨fun hlt => ?_, fun hge => ?_⟩
    · have hi2 : i < l.length := by omega
      have he := hel _ (List.getElem_mem hi2)
      repeat' ((conv => whnf); (first | refine k0 ?_ | refine jA fun _ => ?_ | refine jB fun _ => ?_ | refine kC (fun _ => ?_) fun _ => ?_ | (apply cx134; refine kl tx134 ?_) | refine jst ?_ | exact ⟨rfl, rfl⟩ | exact jV | fail))
      refine ⟨⟨i + 1, by omega⟩, by simp only; omega, ?_⟩
      exact jw []
    · repeat' ((conv => whnf); (first | refine k0 ?_ | refine jA fun _ => ?_ | refine jB fun _ => ?_ | refine kC (fun _ => ?_) fun _ => ?_ | (apply cx134; refine kl tx134 ?_) | refine jst ?_ | exact ⟨rfl, rfl⟩ | exact jV | fail))

theorem cx84 {P : Program} {X : FuncId → List Arg → List (Bool × List Cell) → List (Option (List Cell)) → Prop} {a : List Arg} {Q : List (Bool × List Cell) → List (Option (List Cell)) → Prop} (h : ∃ b vals outs, a = b ∧ D P X (.call 84 b vals outs) ∧ Q vals outs) : CallS P X 84 a Q := ⟨h⟩

set_option maxRecDepth 100000 in
theorem tx37 {x : Df} (hx : OkDf x := by first | assumption | omega | (simp; done) | (simp; omega)) : T 37 [.val true (dfC false x), .val true (dfC false x)] [vB true] [none, none] := by
  refine w_call md [] Tryz.func37 rfl ?_
  obtain ⟨h1, h2, h3, h4⟩ := hx
  have h5 : ∀ y ∈ x.idx, y.parts.length ≤ 1000000000000 := fun y hy => Nat.le_trans (h4 y hy) (by decide)
  repeat' ((conv => whnf); (first | refine k0 ?_ | refine jA fun _ => ?_ | refine jB fun _ => ?_ | refine kC (fun _ => ?_) fun _ => ?_ | (apply cx82; refine kl tx82 ?_) | (apply cx83; refine kl tx83 ?_) | (apply cx84; refine kl tx84 ?_) | refine jst ?_ | exact ⟨rfl, rfl⟩ | exact jV | fail))

theorem cx37 {P : Program} {X : FuncId → List Arg → List (Bool × List Cell) → List (Option (List Cell)) → Prop} {a : List Arg} {Q : List (Bool × List Cell) → List (Option (List Cell)) → Prop} (h : ∃ b vals outs, a = b ∧ D P X (.call 37 b vals outs) ∧ Q vals outs) : CallS P X 37 a Q := ⟨h⟩

set_option maxRecDepth 100000 in
theorem tx12 {l : List Df} (hl : l.length ≤ 1000000000000 := by first | assumption | omega | (simp; done) | (simp; omega)) (hel : ∀ x ∈ l, OkDf x := by assumption) : T 12 [aE l, aE l] [vB true] [none, none] := by
  refine w_call md [] Tryz.func12 rfl ?_
  repeat' ((conv => whnf); (first | refine k0 ?_ | refine jA fun _ => ?_ | refine jB fun _ => ?_ | refine kC (fun _ => ?_) fun _ => ?_ | (apply cx37; refine kl tx37 ?_) | refine jst ?_ | exact ⟨rfl, rfl⟩ | exact jV | fail))
  conv => whnf
  refine loopk (ι := Nat) (fun i => i ≤ l.length) (fun i => l.length - i) (0) [0, 1] (fun i => [(5, .v false [i6 i])]) [none, none] ?_
  refine ⟨by omega, ?_, fun i hi => ?_⟩
  · exact jw []
  · refine ⟨fun hlt => ?_, fun hge => ?_⟩
    · have hi2 : i < l.length := by omega
      have he := hel _ (List.getElem_mem hi2)
      repeat' ((conv => whnf); (first | refine k0 ?_ | refine jA fun _ => ?_ | refine jB fun _ => ?_ | refine kC (fun _ => ?_) fun _ => ?_ | (apply cx37; refine kl tx37 ?_) | refine jst ?_ | exact ⟨rfl, rfl⟩ | exact jV | fail))
      refine ⟨⟨i + 1, by omega⟩, by simp only; omega, ?_⟩
      exact jw []
    · repeat' ((conv => whnf); (first | refine k0 ?_ | refine jA fun _ => ?_ | refine jB fun _ => ?_ | refine kC (fun _ => ?_) fun _ => ?_ | (apply cx37; refine kl tx37 ?_) | refine jst ?_ | exact ⟨rfl, rfl⟩ | exact jV | fail))

theorem cx12 {P : Program} {X : FuncId → List Arg → List (Bool × List Cell) → List (Option (List Cell)) → Prop} {a : List Arg} {Q : List (Bool × List Cell) → List (Option (List Cell)) → Prop} (h : ∃ b vals outs, a = b ∧ D P X (.call 12 b vals outs) ∧ Q vals outs) : CallS P X 12 a Q := ⟨h⟩

set_option maxRecDepth 100000 in
theorem tx135 {l : List (List Vl)} (hl : l.length ≤ 1000000000000 := by first | assumption | omega | (simp; done) | (simp; omega)) (hel : ∀ x ∈ l, x.length ≤ 10000000 := by assumption) : T 135 [aE l, aE l] [vB true] [none, none] := by
  refine w_call md [] Tryz.func135 rfl ?_
  repeat' ((conv => whnf); (first | refine k0 ?_ | refine jA fun _ => ?_ | refine jB fun _ => ?_ | refine kC (fun _ => ?_) fun _ => ?_ | (apply cx51; refine kl tx51 ?_) | refine jst ?_ | exact ⟨rfl, rfl⟩ | exact jV | fail))
  conv => whnf
  refine loopk (ι := Nat) (fun i => i ≤ l.length) (fun i => l.length - i) (0) [0, 1] (fun i => [(5, .v false [i6 i])]) [none, none] ?_
  refine ⟨by omega, ?_, fun i hi => ?_⟩
  · exact jw []
  · refine ⟨fun hlt => ?_, fun hge => ?_⟩
    · have hi2 : i < l.length := by omega
      have he := hel _ (List.getElem_mem hi2)
      repeat' ((conv => whnf); (first | refine k0 ?_ | refine jA fun _ => ?_ | refine jB fun _ => ?_ | refine kC (fun _ => ?_) fun _ => ?_ | (apply cx51; refine kl tx51 ?_) | refine jst ?_ | exact ⟨rfl, rfl⟩ | exact jV | fail))
      refine ⟨⟨i + 1, by omega⟩, by simp only; omega, ?_⟩
      exact jw []
    · repeat' ((conv => whnf); (first | refine k0 ?_ | refine jA fun _ => ?_ | refine jB fun _ => ?_ | refine kC (fun _ => ?_) fun _ => ?_ | (apply cx51; refine kl tx51 ?_) | refine jst ?_ | exact ⟨rfl, rfl⟩ | exact jV | fail))

theorem cx135 {P : Program} {X : FuncId → List Arg → List (Bool × List Cell) → List (Option (List Cell)) → Prop} {a : List Arg} {Q : List (Bool × List Cell) → List (Option (List Cell)) → Prop} (h : ∃ b vals outs, a = b ∧ D P X (.call 135 b vals outs) ∧ Q vals outs) : CallS P X 135 a Q := ⟨h⟩

set_option maxRecDepth 100000 in
theorem tx85 {t : List (List Vl)} (ht : OkTb t := by first | assumption | omega | (simp; done) | (simp; omega)) : T 85 [.val true [slE false t], .val true [slE false t]] [vB true] [none, none] := by
  refine w_call md [] Tryz.func85 rfl ?_
  obtain ⟨h1, h2⟩ := ht
  repeat' ((conv => whnf); (first | refine k0 ?_ | refine jA fun _ => ?_ | refine jB fun _ => ?_ | refine kC (fun _ => ?_) fun _ => ?_ | (apply cx135; refine kl tx135 ?_) | refine jst ?_ | exact ⟨rfl, rfl⟩ | exact jV | fail))

theorem cx85 {P : Program} {X : FuncId → List Arg → List (Bool × List Cell) → List (Option (List Cell)) → Prop} {a : List Arg} {Q : List (Bool × List Cell) → List (Option (List Cell)) → Prop} (h : ∃ b vals outs, a = b ∧ D P X (.call 85 b vals outs) ∧ Q vals outs) : CallS P X 85 a Q := ⟨h⟩

set_option maxRecDepth 100000 in
theorem tx38 {l : List (List (List Vl))} (hl : l.length ≤ 1000000000000 := by first | assumption | omega | (simp; done) | (simp; omega)) (hel : ∀ x ∈ l, OkTb x := by assumption) : T 38 [aE l, aE l] [vB true] [none, none] := by
  refine w_call md [] Tryz.func38 rfl ?_
  repeat' ((conv => whnf); (first | refine k0 ?_ | refine jA fun _ => ?_ | refine jB fun _ => ?_ | refine kC (fun _ => ?_) fun _ => ?_ | (apply cx85; refine kl tx85 ?_) | refine jst ?_ | exact ⟨rfl, rfl⟩ | exact jV | fail))
  conv => whnf
  refine loopk (ι := Nat) (fun i => i ≤ l.length) (fun i => l.length - i) (0) [0, 1] (fun i => [(5, .v false [i6 i])]) [none, none] ?_
  refine ⟨by omega, ?_, fun i hi => ?_⟩
  · exact jw []
  · refine ⟨fun hlt => ?_, fun hge => ?_⟩
    · have hi2 : i < l.length := by omega
      have he := hel _ (List.getElem_mem hi2)
      repeat' ((conv => whnf); (first | refine k0 ?_ | refine jA fun _ => ?_ | refine jB fun _ => ?_ | refine kC (fun _ => ?_) fun _ => ?_ | (apply cx85; refine kl tx85 ?_) | refine jst ?_ | exact ⟨rfl, rfl⟩ | exact jV | fail))
      refine ⟨⟨i + 1, by omega⟩, by simp only; omega, ?_⟩
      exact jw []
    · repeat' ((conv => whnf); (first | refine k0 ?_ | refine jA fun _ => ?_ | refine jB fun _ => ?_ | refine kC (fun _ => ?_) fun _ => ?_ | (apply cx85; refine kl tx85 ?_) | refine jst ?_ | exact ⟨rfl, rfl⟩ | exact jV | fail))

theorem cx38 {P : Program} {X : FuncId → List Arg → List (Bool × List Cell) → List (Option (List Cell)) → Prop} {a : List Arg} {Q : List (Bool × List Cell) → List (Option (List Cell)) → Prop} (h : ∃ b vals outs, a = b ∧ D P X (.call 38 b vals outs) ∧ Q vals outs) : CallS P X 38 a Q := ⟨h⟩

set_option maxRecDepth 100000 in
theorem tx13 {m : List (List (List Vl))} (hl : m.length ≤ 1000000000000 := by first | assumption | omega | (simp; done) | (simp; omega)) (hm : ∀ x ∈ m, OkTb x := by first | assumption | omega | (simp; done) | (simp; omega)) : T 13 [.val true [slE false m], .val true [slE false m]] [vB true] [none, none] := by
  refine w_call md [] Tryz.func13 rfl ?_
  repeat' ((conv => whnf); (first | refine k0 ?_ | refine jA fun _ => ?_ | refine jB fun _ => ?_ | refine kC (fun _ => ?_) fun _ => ?_ | (apply cx38; refine kl tx38 ?_) | refine jst ?_ | exact ⟨rfl, rfl⟩ | exact jV | fail))

theorem cx13 {P : Program} {X : FuncId → List Arg → List (Bool × List Cell) → List (Option (List Cell)) → Prop} {a : List Arg} {Q : List (Bool × List Cell) → List (Option (List Cell)) → Prop} (h : ∃ b vals outs, a = b ∧ D P X (.call 13 b vals outs) ∧ Q vals outs) : CallS P X 13 a Q := ⟨h⟩

end Go.Proofs.YtopnaijeicknoaaGreatDoor
