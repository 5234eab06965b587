/- Functions of the program, each with what it gives back. -/
import Derived.Test.YtacfohamlkbpjaaGreatKe
import Derived.Test.YtacfohamlkbpjaaGreatChecked
import Derived.IntWalk
namespace Go.Proofs.YtacfohamlkbpjaaGreat
open Go Go.RowKit Go.IntWalk
open Enc (sz cs)
attribute [local irreducible] IntKind.wrap

def md : FuncId → List Mode
  | 101 => [.own 1]
  | 79 => [.val [1,1,1]]
  | 100 => [.own 1]
  | 99 => [.own 1]
  | 65 => [.own 1]
  | 43 => [.own 1]
  | 44 => [.own 2]
  | 45 => [.own 3]
  | 25 => [.own 5]
  | 46 => [.own 1]
  | 47 => [.own 1]
  | 11 => [.own 2]
  | 24 => [.str]
  | 10 => [.str]
  | 86 => [.val [1,1,1]]
  | 84 => [.own 1]
  | 85 => [.own 1]
  | 37 => [.val [5]]
  | 57 => [.val [5]]
  | 7 => [.val [5]]
  | 31 => [.val [5]]
  | 5 => [.val [5]]
  | 15 => [.val [5], .val [], .own 2, .own 1]
  | 19 => [.own 1]
  | _ => []

def X0 : FuncId → List Arg → List (Bool × List Cell) → List (Option (List Cell)) → Prop := fun _ _ _ _ => False
theorem X0_ok : ∀ f as1 vals outs, X0 f as1 vals outs → CallOK Tryz.prog f as1 vals outs := fun _ _ _ _ h => False.elim h
abbrev T (f : FuncId) (a : List Arg) (vals : List (Bool × List Cell)) (outs : List (Option (List Cell))) : Prop := D Tryz.prog X0 (.call f a vals outs)
abbrev aI (n : Int) : Arg := .val false [i6 n]
abbrev aB (n : Bool) : Arg := .val false [b1 n]
abbrev aS (n : ByteArray) : Arg := .val false [s1 n]
abbrev aE {α : Type} [Enc α] (xs : List α) : Arg := .val false [slE false xs]
abbrev aO {α : Type} [Enc α] (xs : List α) : Arg := .own false xs.length (sz α) (cs true xs)
abbrev vI (n : Int) : Bool × List Cell := (false, [i6 n])
abbrev vB (b : Bool) : Bool × List Cell := (false, [b1 b])
abbrev vS (b : ByteArray) : Bool × List Cell := (false, [s1 b])
abbrev vE {α : Type} [Enc α] (xs : List α) : Bool × List Cell := (false, [slE true xs])

theorem vIe {a b : Int} (h : a = b) : [vI a] = [vI b] := by rw [h]
theorem jV {a b : Int} {β : Type} {x y : β} (h : a = b := by omega) (h2 : x = y := by rfl) : [vI a] = [vI b] ∧ x = y := ⟨vIe h, h2⟩

set_option maxRecDepth 100000 in
theorem tx77 {n l h : Int} : T 77 [aI n, aI l, aI h] [vB (inB n l h)] [none, none, none] := by
  refine w_call md [] Tryz.func77 rfl ?_
  repeat' ((conv => whnf); (first | refine k0 ?_ | refine jA fun _ => ?_ | refine jB fun _ => ?_ | refine kC (fun _ => ?_) fun _ => ?_ | refine jS ?_ | refine jI ?_ | refine jD ?_ | refine ⟨snc, _, snr, ?_⟩ | refine ⟨⟨Nat.le_refl _, rfl⟩, [], rfl, ?_⟩ | refine And.intro ⟨rfl, rfl, by decide, rfl⟩ ?_ | refine jP ?_ | refine jO ?_ | refine jX ?_ | refine jb jr ?_ | refine jb ofs ?_ | refine ko jc ?_ | refine ko jp ?_ | refine jM ?_ | refine kr ?_ | refine ko rfl ?_ | refine And.intro (cs_shal _) ?_ | refine And.intro (rfl : List.all _ _ = true) ?_ | refine And.intro ⟨rfl, (rfl : List.all _ _ = true)⟩ ?_ | exact ⟨rfl, rfl⟩ | exact jV | fail))
  all_goals exact ⟨by simp [inB]; omega, rfl⟩

theorem cx77 {P : Program} {X : FuncId → List Arg → List (Bool × List Cell) → List (Option (List Cell)) → Prop} {a : List Arg} {Q : List (Bool × List Cell) → List (Option (List Cell)) → Prop} (h : ∃ b vals outs, a = b ∧ D P X (.call 77 b vals outs) ∧ Q vals outs) : CallS P X 77 a Q := ⟨h⟩

set_option maxRecDepth 100000 in
theorem tx92 {n l h : Int} : T 92 [aI n, aI l, aI h] [vB (inB n l h)] [none, none, none] := by
  refine w_call md [] Tryz.func92 rfl ?_
  repeat' ((conv => whnf); (first | refine k0 ?_ | refine jA fun _ => ?_ | refine jB fun _ => ?_ | refine kC (fun _ => ?_) fun _ => ?_ | refine jS ?_ | refine jI ?_ | refine jD ?_ | refine ⟨snc, _, snr, ?_⟩ | refine ⟨⟨Nat.le_refl _, rfl⟩, [], rfl, ?_⟩ | refine And.intro ⟨rfl, rfl, by decide, rfl⟩ ?_ | refine jP ?_ | refine jO ?_ | refine jX ?_ | refine jb jr ?_ | refine jb ofs ?_ | refine ko jc ?_ | refine ko jp ?_ | refine jM ?_ | refine kr ?_ | refine ko rfl ?_ | refine And.intro (cs_shal _) ?_ | refine And.intro (rfl : List.all _ _ = true) ?_ | refine And.intro ⟨rfl, (rfl : List.all _ _ = true)⟩ ?_ | exact ⟨rfl, rfl⟩ | exact jV | fail))
  all_goals exact ⟨by simp [inB]; omega, rfl⟩

theorem cx92 {P : Program} {X : FuncId → List Arg → List (Bool × List Cell) → List (Option (List Cell)) → Prop} {a : List Arg} {Q : List (Bool × List Cell) → List (Option (List Cell)) → Prop} (h : ∃ b vals outs, a = b ∧ D P X (.call 92 b vals outs) ∧ Q vals outs) : CallS P X 92 a Q := ⟨h⟩

set_option maxRecDepth 100000 in
theorem tx103 {n : Int} : T 103 [aI n] [vB (inB n 2 47)] [none] := by
  refine w_call md [] Tryz.func103 rfl ?_
  repeat' ((conv => whnf); (first | refine k0 ?_ | refine jA fun _ => ?_ | refine jB fun _ => ?_ | refine kC (fun _ => ?_) fun _ => ?_ | refine jS ?_ | refine jI ?_ | (apply cx77; refine kl tx77 ?_) | refine jD ?_ | refine ⟨snc, _, snr, ?_⟩ | refine ⟨⟨Nat.le_refl _, rfl⟩, [], rfl, ?_⟩ | refine And.intro ⟨rfl, rfl, by decide, rfl⟩ ?_ | refine jP ?_ | refine jO ?_ | refine jX ?_ | refine jb jr ?_ | refine jb ofs ?_ | refine ko jc ?_ | refine ko jp ?_ | refine jM ?_ | refine kr ?_ | refine ko rfl ?_ | refine And.intro (cs_shal _) ?_ | refine And.intro (rfl : List.all _ _ = true) ?_ | refine And.intro ⟨rfl, (rfl : List.all _ _ = true)⟩ ?_ | exact ⟨rfl, rfl⟩ | exact jV | fail))
  all_goals exact ⟨by simp [*], rfl⟩

theorem cx103 {P : Program} {X : FuncId → List Arg → List (Bool × List Cell) → List (Option (List Cell)) → Prop} {a : List Arg} {Q : List (Bool × List Cell) → List (Option (List Cell)) → Prop} (h : ∃ b vals outs, a = b ∧ D P X (.call 103 b vals outs) ∧ Q vals outs) : CallS P X 103 a Q := ⟨h⟩

set_option maxRecDepth 100000 in
theorem tx17 {m : Met} : T 17 [.val true (metC m)] [(true, metC m)] [none] := by
  refine w_call md [] Tryz.func17 rfl ?_
  repeat' ((conv => whnf); (first | refine k0 ?_ | refine jA fun _ => ?_ | refine jB fun _ => ?_ | refine kC (fun _ => ?_) fun _ => ?_ | refine jS ?_ | refine jI ?_ | refine jD ?_ | refine ⟨snc, _, snr, ?_⟩ | refine ⟨⟨Nat.le_refl _, rfl⟩, [], rfl, ?_⟩ | refine And.intro ⟨rfl, rfl, by decide, rfl⟩ ?_ | refine jP ?_ | refine jO ?_ | refine jX ?_ | refine jb jr ?_ | refine jb ofs ?_ | refine ko jc ?_ | refine ko jp ?_ | refine jM ?_ | refine kr ?_ | refine ko rfl ?_ | refine And.intro (cs_shal _) ?_ | refine And.intro (rfl : List.all _ _ = true) ?_ | refine And.intro ⟨rfl, (rfl : List.all _ _ = true)⟩ ?_ | exact ⟨rfl, rfl⟩ | exact jV | fail))

theorem cx17 {P : Program} {X : FuncId → List Arg → List (Bool × List Cell) → List (Option (List Cell)) → Prop} {a : List Arg} {Q : List (Bool × List Cell) → List (Option (List Cell)) → Prop} (h : ∃ b vals outs, a = b ∧ D P X (.call 17 b vals outs) ∧ Q vals outs) : CallS P X 17 a Q := ⟨h⟩

end Go.Proofs.YtacfohamlkbpjaaGreat
