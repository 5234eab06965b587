/- Functions of the program, each with what it gives back. -/
import Derived.Test.YtkmnalklckmgjaaKe
import Derived.Test.YtkmnalklckmgjaaChecked
import Derived.IntWalk
namespace Go.Proofs.Ytkmnalklckmgjaa
open Go Go.RowKit Go.IntWalk
open Enc (sz cs)
attribute [local irreducible] IntKind.wrap

def md : FuncId → List Mode
  | 17 => [.own 1]
  | 34 => [.own 1]
  | 33 => [.own 1]
  | 44 => [.own 1]
  | 31 => [.own 1]
  | 18 => [.own 1]
  | 32 => [.own 1, .own 1]
  | 39 => [.own 1]
  | 20 => [.own 1]
  | 23 => [.own 1]
  | 15 => [.own 1]
  | 21 => [.own 1, .own 1]
  | _ => []

def X0 : FuncId → List Arg → List (Bool × List Cell) → List (Option (List Cell)) → Prop := fun _ _ _ _ => False
theorem X0_ok : ∀ f as1 vals outs, X0 f as1 vals outs → CallOK Try.prog f as1 vals outs := fun _ _ _ _ h => False.elim h
abbrev T (f : FuncId) (a : List Arg) (vals : List (Bool × List Cell)) (outs : List (Option (List Cell))) : Prop := D Try.prog X0 (.call f a vals outs)
abbrev aI (n : Int) : Arg := .val false [i6 n]
abbrev aB (n : Bool) : Arg := .val false [b1 n]
abbrev aS (n : ByteArray) : Arg := .val false [s1 n]
abbrev aE {α : Type} [Enc α] (xs : List α) : Arg := .val false [slE false xs]
abbrev aO {α : Type} [Enc α] (xs : List α) : Arg := .own false xs.length (sz α) (cs true xs)
abbrev vI (n : Int) : Bool × List Cell := (false, [i6 n])
abbrev vB (b : Bool) : Bool × List Cell := (false, [b1 b])
abbrev vS (b : ByteArray) : Bool × List Cell := (false, [s1 b])
abbrev vE {α : Type} [Enc α] (xs : List α) : Bool × List Cell := (false, [slE true xs])

theorem vIe {a b : Int} (h : a = b) : [vI a] = [vI b] := by rw [h]
theorem jV {a b : Int} {β : Type} {x y : β} (h : a = b := by omega) (h2 : x = y := by rfl) : [vI a] = [vI b] ∧ x = y := ⟨vIe h, h2⟩

set_option maxRecDepth 100000 in
theorem tx28 {n l h : Int} : T 28 [aI n, aI l, aI h] [vB (inB n l h)] [none, none, none] := by
  refine w_call md [] Try.func28 rfl ?_
  repeat' ((conv => whnf); (first | refine k0 ?_ | refine jA fun _ => ?_ | refine jB fun _ => ?_ | refine kC (fun _ => ?_) fun _ => ?_ | refine jS ?_ | refine jI ?_ | refine jD ?_ | refine ⟨snc, _, snr, ?_⟩ | refine ⟨⟨Nat.le_refl _, rfl⟩, [], rfl, ?_⟩ | refine And.intro ⟨rfl, rfl, by decide, rfl⟩ ?_ | refine jP ?_ | refine jO ?_ | refine jX ?_ | refine jb jr ?_ | refine jb ofs ?_ | refine ko jc ?_ | refine ko jp ?_ | refine jM ?_ | refine kr ?_ | refine ko rfl ?_ | refine And.intro (cs_shal _) ?_ | refine And.intro (rfl : List.all _ _ = true) ?_ | refine And.intro ⟨rfl, (rfl : List.all _ _ = true)⟩ ?_ | exact ⟨rfl, rfl⟩ | exact jV | fail))
  all_goals exact ⟨by simp [inB]; omega, rfl⟩

theorem cx28 {P : Program} {X : FuncId → List Arg → List (Bool × List Cell) → List (Option (List Cell)) → Prop} {a : List Arg} {Q : List (Bool × List Cell) → List (Option (List Cell)) → Prop} (h : ∃ b vals outs, a = b ∧ D P X (.call 28 b vals outs) ∧ Q vals outs) : CallS P X 28 a Q := ⟨h⟩

set_option maxRecDepth 100000 in
theorem tx30 {n l h : Int} : T 30 [aI n, aI l, aI h] [vB (inB n l h)] [none, none, none] := by
  refine w_call md [] Try.func30 rfl ?_
  repeat' ((conv => whnf); (first | refine k0 ?_ | refine jA fun _ => ?_ | refine jB fun _ => ?_ | refine kC (fun _ => ?_) fun _ => ?_ | refine jS ?_ | refine jI ?_ | refine jD ?_ | refine ⟨snc, _, snr, ?_⟩ | refine ⟨⟨Nat.le_refl _, rfl⟩, [], rfl, ?_⟩ | refine And.intro ⟨rfl, rfl, by decide, rfl⟩ ?_ | refine jP ?_ | refine jO ?_ | refine jX ?_ | refine jb jr ?_ | refine jb ofs ?_ | refine ko jc ?_ | refine ko jp ?_ | refine jM ?_ | refine kr ?_ | refine ko rfl ?_ | refine And.intro (cs_shal _) ?_ | refine And.intro (rfl : List.all _ _ = true) ?_ | refine And.intro ⟨rfl, (rfl : List.all _ _ = true)⟩ ?_ | exact ⟨rfl, rfl⟩ | exact jV | fail))
  all_goals exact ⟨by simp [inB]; omega, rfl⟩

theorem cx30 {P : Program} {X : FuncId → List Arg → List (Bool × List Cell) → List (Option (List Cell)) → Prop} {a : List Arg} {Q : List (Bool × List Cell) → List (Option (List Cell)) → Prop} (h : ∃ b vals outs, a = b ∧ D P X (.call 30 b vals outs) ∧ Q vals outs) : CallS P X 30 a Q := ⟨h⟩

set_option maxRecDepth 100000 in
theorem tx29 {n : Int} : T 29 [aI n] [vB (inB n 2 47)] [none] := by
  refine w_call md [] Try.func29 rfl ?_
  repeat' ((conv => whnf); (first | refine k0 ?_ | refine jA fun _ => ?_ | refine jB fun _ => ?_ | refine kC (fun _ => ?_) fun _ => ?_ | refine jS ?_ | refine jI ?_ | (apply cx28; refine kl tx28 ?_) | refine jD ?_ | refine ⟨snc, _, snr, ?_⟩ | refine ⟨⟨Nat.le_refl _, rfl⟩, [], rfl, ?_⟩ | refine And.intro ⟨rfl, rfl, by decide, rfl⟩ ?_ | refine jP ?_ | refine jO ?_ | refine jX ?_ | refine jb jr ?_ | refine jb ofs ?_ | refine ko jc ?_ | refine ko jp ?_ | refine jM ?_ | refine kr ?_ | refine ko rfl ?_ | refine And.intro (cs_shal _) ?_ | refine And.intro (rfl : List.all _ _ = true) ?_ | refine And.intro ⟨rfl, (rfl : List.all _ _ = true)⟩ ?_ | exact ⟨rfl, rfl⟩ | exact jV | fail))
  all_goals exact ⟨by simp [*], rfl⟩

theorem cx29 {P : Program} {X : FuncId → List Arg → List (Bool × List Cell) → List (Option (List Cell)) → Prop} {a : List Arg} {Q : List (Bool × List Cell) → List (Option (List Cell)) → Prop} (h : ∃ b vals outs, a = b ∧ D P X (.call 29 b vals outs) ∧ Q vals outs) : CallS P X 29 a Q := ⟨h⟩

set_option maxRecDepth 100000 in
theorem tx12 {m : Met} : T 12 [.val true (metC m)] [vB (metaOk m)] [none] := by
  refine w_call md [] Try.func12 rfl ?_
  repeat' ((conv => whnf); (first | refine k0 ?_ | refine jA fun _ => ?_ | refine jB fun _ => ?_ | refine kC (fun _ => ?_) fun _ => ?_ | refine jS ?_ | refine jI ?_ | (apply cx30; refine kl tx30 ?_) | refine jD ?_ | refine ⟨snc, _, snr, ?_⟩ | refine ⟨⟨Nat.le_refl _, rfl⟩, [], rfl, ?_⟩ | refine And.intro ⟨rfl, rfl, by decide, rfl⟩ ?_ | refine jP ?_ | refine jO ?_ | refine jX ?_ | refine jb jr ?_ | refine jb ofs ?_ | refine ko jc ?_ | refine ko jp ?_ | refine jM ?_ | refine kr ?_ | refine ko rfl ?_ | refine And.intro (cs_shal _) ?_ | refine And.intro (rfl : List.all _ _ = true) ?_ | refine And.intro ⟨rfl, (rfl : List.all _ _ = true)⟩ ?_ | exact ⟨rfl, rfl⟩ | exact jV | fail))
  all_goals exact ⟨by simp [metaOk, *], rfl⟩

theorem cx12 {P : Program} {X : FuncId → List Arg → List (Bool × List Cell) → List (Option (List Cell)) → Prop} {a : List Arg} {Q : List (Bool × List Cell) → List (Option (List Cell)) → Prop} (h : ∃ b vals outs, a = b ∧ D P X (.call 12 b vals outs) ∧ Q vals outs) : CallS P X 12 a Q := ⟨h⟩

set_option maxRecDepth 100000 in
theorem tx10 {m : Met} : T 10 [.val true (metC m)] [vB (metaOk m)] [none] := by
  refine w_call md [] Try.func10 rfl ?_
  repeat' ((conv => whnf); (first | refine k0 ?_ | refine jA fun _ => ?_ | refine jB fun _ => ?_ | refine kC (fun _ => ?_) fun _ => ?_ | refine jS ?_ | refine jI ?_ | (apply cx28; refine kl tx28 ?_) | (apply cx29; refine kl tx29 ?_) | refine jD ?_ | refine ⟨snc, _, snr, ?_⟩ | refine ⟨⟨Nat.le_refl _, rfl⟩, [], rfl, ?_⟩ | refine And.intro ⟨rfl, rfl, by decide, rfl⟩ ?_ | refine jP ?_ | refine jO ?_ | refine jX ?_ | refine jb jr ?_ | refine jb ofs ?_ | refine ko jc ?_ | refine ko jp ?_ | refine jM ?_ | refine kr ?_ | refine ko rfl ?_ | refine And.intro (cs_shal _) ?_ | refine And.intro (rfl : List.all _ _ = true) ?_ | refine And.intro ⟨rfl, (rfl : List.all _ _ = true)⟩ ?_ | exact ⟨rfl, rfl⟩ | exact jV | fail))
  all_goals exact ⟨by simp [metaOk, *], rfl⟩

theorem cx10 {P : Program} {X : FuncId → List Arg → List (Bool × List Cell) → List (Option (List Cell)) → Prop} {a : List Arg} {Q : List (Bool × List Cell) → List (Option (List Cell)) → Prop} (h : ∃ b vals outs, a = b ∧ D P X (.call 10 b vals outs) ∧ Q vals outs) : CallS P X 10 a Q := ⟨h⟩

end Go.Proofs.Ytkmnalklckmgjaa
