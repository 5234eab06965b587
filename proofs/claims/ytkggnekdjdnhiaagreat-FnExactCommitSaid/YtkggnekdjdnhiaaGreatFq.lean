/- Functions of the program, each with what it gives back. -/
import Derived.Test.YtkggnekdjdnhiaaGreatKe
import Derived.Test.YtkggnekdjdnhiaaGreatChecked
import Derived.IntWalk
import Derived.Test.YtkggnekdjdnhiaaGreatFp
namespace Go.Proofs.YtkggnekdjdnhiaaGreat
open Go Go.RowKit Go.IntWalk
open Enc (sz cs)
attribute [local irreducible] IntKind.wrap

/-- Is a number in a list? -/
def hasI (l : List Int) (n : Int) : Bool := decide (n ∈ l)
theorem hasI_no {l : List Int} {n : Int} (h : ∀ j (hj : j < l.length), l[j] ≠ n) : hasI l n = false := by
  unfold hasI
  rw [decide_eq_false_iff_not]
  intro hm
  obtain ⟨i, hi, e⟩ := List.getElem_of_mem hm
  exact h i hi e
theorem hasI_at {l : List Int} {n : Int} {i : Nat} (hi : i < l.length) (h : l[i] = n) : hasI l n = true := by
  unfold hasI
  rw [decide_eq_true_eq, ← h]
  exact List.getElem_mem hi

set_option maxRecDepth 100000 in
theorem tx44 {l : List Int} {n : Int} (hl : l.length ≤ 10000000 := by first | assumption | omega | (simp; done) | (simp; omega)) : T 44 [aE l, aI n] [vB (hasI l n)] [none, none] := by
  refine w_call md [] Tryz.func44 rfl ?_
  repeat' ((conv => whnf); (first | refine k0 ?_ | refine jA fun _ => ?_ | refine jB fun _ => ?_ | refine kC (fun _ => ?_) fun _ => ?_ | refine jst ?_ | exact ⟨rfl, rfl⟩ | exact jV | fail))
  conv => whnf
  refine loopk (ι := Nat) (fun i => i ≤ l.length ∧ ∀ j (h : j < l.length), j < i → l[j] ≠ n) (fun i => l.length - i) (0) [1, 7, 8] (fun i => [(9, .v false [i6 i])]) [none, none] ?_
  refine ⟨⟨by omega, by intros; omega⟩, ?_, fun i hi => ?_⟩
  · exact jw []
  · refine ⟨fun hlt => ?_, fun hge => ?_⟩
    · have hi2 : i < l.length := by omega
      repeat' ((conv => whnf); (first | refine k0 ?_ | refine jA fun _ => ?_ | refine jB fun _ => ?_ | refine kC (fun _ => ?_) fun _ => ?_ | refine jst ?_ | exact ⟨rfl, rfl⟩ | exact jV | fail))
      · exact ⟨by rw [hasI_at hi2 ‹_›], rfl⟩
      · refine ⟨⟨i + 1, by omega, all_suc hi.2 hi2 ‹_›⟩, by simp only; omega, ?_⟩
        exact jw []
    · obtain rfl : i = l.length := by omega
      repeat' ((conv => whnf); (first | refine k0 ?_ | refine jA fun _ => ?_ | refine jB fun _ => ?_ | refine kC (fun _ => ?_) fun _ => ?_ | refine jst ?_ | exact ⟨rfl, rfl⟩ | exact jV | fail))
      exact ⟨by rw [hasI_no (fun j h => hi.2 j h h)], rfl⟩

theorem cx44 {P : Program} {X : FuncId → List Arg → List (Bool × List Cell) → List (Option (List Cell)) → Prop} {a : List Arg} {Q : List (Bool × List Cell) → List (Option (List Cell)) → Prop} (h : ∃ b vals outs, a = b ∧ D P X (.call 44 b vals outs) ∧ Q vals outs) : CallS P X 44 a Q := ⟨h⟩

set_option maxRecDepth 100000 in
theorem tx41 {l : List Int} {n : Int} (hl : l.length ≤ 10000000 := by first | assumption | omega | (simp; done) | (simp; omega)) : T 41 [aE l, aI n] [vB (hasI l n)] [none, none] := by
  refine w_call md [] Tryz.func41 rfl ?_
  repeat' ((conv => whnf); (first | refine k0 ?_ | refine jA fun _ => ?_ | refine jB fun _ => ?_ | refine kC (fun _ => ?_) fun _ => ?_ | refine jst ?_ | exact ⟨rfl, rfl⟩ | exact jV | fail))
  conv => whnf
  refine loopk (ι := Nat) (fun i => i ≤ l.length ∧ ∀ j (h : j < l.length), j < i → l[j] ≠ n) (fun i => l.length - i) (0) [0, 1] (fun i => [(5, .v false [i6 i])]) [none, none] ?_
  refine ⟨⟨by omega, by intros; omega⟩, ?_, fun i hi => ?_⟩
  · exact jw []
  · repeat' ((conv => whnf); (first | refine k0 ?_ | refine jst ?_ | exact ⟨rfl, rfl⟩ | exact jV | fail))
    conv => whnf
    refine ⟨fun hlt => ?_, fun hge => ?_⟩
    · have hi2 : i < l.length := by omega
      repeat' ((conv => whnf); (first | refine k0 ?_ | refine jA fun _ => ?_ | refine jB fun _ => ?_ | refine kC (fun _ => ?_) fun _ => ?_ | refine jst ?_ | exact ⟨rfl, rfl⟩ | exact jV | fail))
      · exact ⟨by rw [hasI_at hi2 ‹_›], rfl⟩
      · refine ⟨⟨i + 1, by omega, all_suc hi.2 hi2 ‹_›⟩, by simp only; omega, ?_⟩
        exact jw []
    · obtain rfl : i = l.length := by omega
      repeat' ((conv => whnf); (first | refine k0 ?_ | refine jA fun _ => ?_ | refine jB fun _ => ?_ | refine kC (fun _ => ?_) fun _ => ?_ | refine jst ?_ | exact ⟨rfl, rfl⟩ | exact jV | fail))
      exact ⟨by rw [hasI_no (fun j h => hi.2 j h h)], rfl⟩

theorem cx41 {P : Program} {X : FuncId → List Arg → List (Bool × List Cell) → List (Option (List Cell)) → Prop} {a : List Arg} {Q : List (Bool × List Cell) → List (Option (List Cell)) → Prop} (h : ∃ b vals outs, a = b ∧ D P X (.call 41 b vals outs) ∧ Q vals outs) : CallS P X 41 a Q := ⟨h⟩

end Go.Proofs.YtkggnekdjdnhiaaGreat
