/- Functions of the program, each with what it gives back. -/
import Derived.Test.YtkggnekdjdnhiaaKe
import Derived.Test.YtkggnekdjdnhiaaChecked
import Derived.IntWalk
namespace Go.Proofs.Ytkggnekdjdnhiaa
open Go Go.RowKit Go.IntWalk
open Enc (sz cs)
attribute [local irreducible] IntKind.wrap

def md : FuncId → List Mode
  | 89 => [.own 1]
  | 69 => [.val [1,1,1]]
  | 88 => [.own 1]
  | 87 => [.own 1]
  | 74 => [.val [1,1,1]]
  | 72 => [.own 1]
  | 73 => [.own 1]
  | 42 => [.val [5]]
  | 54 => [.val [5]]
  | 15 => [.val [5]]
  | 7 => [.val [5]]
  | 36 => [.val [5]]
  | 11 => [.val [5]]
  | 5 => [.val [5]]
  | 23 => [.val [5], .val [], .own 2, .own 1]
  | 28 => [.own 1]
  | _ => []

def X0 : FuncId → List Arg → List (Bool × List Cell) → List (Option (List Cell)) → Prop := fun _ _ _ _ => False
theorem X0_ok : ∀ f as1 vals outs, X0 f as1 vals outs → CallOK Try.prog f as1 vals outs := fun _ _ _ _ h => False.elim h
abbrev T (f : FuncId) (a : List Arg) (vals : List (Bool × List Cell)) (outs : List (Option (List Cell))) : Prop := D Try.prog X0 (.call f a vals outs)
abbrev aI (n : Int) : Arg := .val false [i6 n]
abbrev aB (n : Bool) : Arg := .val false [b1 n]
abbrev aS (n : ByteArray) : Arg := .val false [s1 n]
abbrev aE {α : Type} [Enc α] (xs : List α) : Arg := .val false [slE false xs]
abbrev aO {α : Type} [Enc α] (xs : List α) : Arg := .own false xs.length (sz α) (cs true xs)
abbrev vI (n : Int) : Bool × List Cell := (false, [i6 n])
abbrev vB (b : Bool) : Bool × List Cell := (false, [b1 b])
abbrev vS (b : ByteArray) : Bool × List Cell := (false, [s1 b])
abbrev vE {α : Type} [Enc α] (xs : List α) : Bool × List Cell := (false, [slE true xs])

theorem vIe {a b : Int} (h : a = b) : [vI a] = [vI b] := by rw [h]
theorem jV {a b : Int} {β : Type} {x y : β} (h : a = b := by omega) (h2 : x = y := by rfl) : [vI a] = [vI b] ∧ x = y := ⟨vIe h, h2⟩

set_option maxRecDepth 100000 in
theorem tx67 {n l h : Int} : T 67 [aI n, aI l, aI h] [vB (inB n l h)] [none, none, none] := by
  refine w_call md [] Try.func67 rfl ?_
  repeat' ((conv => whnf); (first | refine k0 ?_ | refine jA fun _ => ?_ | refine jB fun _ => ?_ | refine kC (fun _ => ?_) fun _ => ?_ | refine jS ?_ | refine jI ?_ | refine jD ?_ | refine ⟨snc, _, snr, ?_⟩ | refine ⟨⟨Nat.le_refl _, rfl⟩, [], rfl, ?_⟩ | refine And.intro ⟨rfl, rfl, by decide, rfl⟩ ?_ | refine jP ?_ | refine jO ?_ | refine jX ?_ | refine jb jr ?_ | refine jb ofs ?_ | refine ko jc ?_ | refine ko jp ?_ | refine jM ?_ | refine kr ?_ | refine ko rfl ?_ | refine And.intro (cs_shal _) ?_ | refine And.intro (rfl : List.all _ _ = true) ?_ | refine And.intro ⟨rfl, (rfl : List.all _ _ = true)⟩ ?_ | exact ⟨rfl, rfl⟩ | exact jV | fail))
  all_goals exact ⟨by simp [inB]; omega, rfl⟩

theorem cx67 {P : Program} {X : FuncId → List Arg → List (Bool × List Cell) → List (Option (List Cell)) → Prop} {a : List Arg} {Q : List (Bool × List Cell) → List (Option (List Cell)) → Prop} (h : ∃ b vals outs, a = b ∧ D P X (.call 67 b vals outs) ∧ Q vals outs) : CallS P X 67 a Q := ⟨h⟩

set_option maxRecDepth 100000 in
theorem tx80 {n l h : Int} : T 80 [aI n, aI l, aI h] [vB (inB n l h)] [none, none, none] := by
  refine w_call md [] Try.func80 rfl ?_
  repeat' ((conv => whnf); (first | refine k0 ?_ | refine jA fun _ => ?_ | refine jB fun _ => ?_ | refine kC (fun _ => ?_) fun _ => ?_ | refine jS ?_ | refine jI ?_ | refine jD ?_ | refine ⟨snc, _, snr, ?_⟩ | refine ⟨⟨Nat.le_refl _, rfl⟩, [], rfl, ?_⟩ | refine And.intro ⟨rfl, rfl, by decide, rfl⟩ ?_ | refine jP ?_ | refine jO ?_ | refine jX ?_ | refine jb jr ?_ | refine jb ofs ?_ | refine ko jc ?_ | refine ko jp ?_ | refine jM ?_ | refine kr ?_ | refine ko rfl ?_ | refine And.intro (cs_shal _) ?_ | refine And.intro (rfl : List.all _ _ = true) ?_ | refine And.intro ⟨rfl, (rfl : List.all _ _ = true)⟩ ?_ | exact ⟨rfl, rfl⟩ | exact jV | fail))
  all_goals exact ⟨by simp [inB]; omega, rfl⟩

theorem cx80 {P : Program} {X : FuncId → List Arg → List (Bool × List Cell) → List (Option (List Cell)) → Prop} {a : List Arg} {Q : List (Bool × List Cell) → List (Option (List Cell)) → Prop} (h : ∃ b vals outs, a = b ∧ D P X (.call 80 b vals outs) ∧ Q vals outs) : CallS P X 80 a Q := ⟨h⟩

set_option maxRecDepth 100000 in
theorem tx91 {n : Int} : T 91 [aI n] [vB (inB n 2 47)] [none] := by
  refine w_call md [] Try.func91 rfl ?_
  repeat' ((conv => whnf); (first | refine k0 ?_ | refine jA fun _ => ?_ | refine jB fun _ => ?_ | refine kC (fun _ => ?_) fun _ => ?_ | refine jS ?_ | refine jI ?_ | (apply cx67; refine kl tx67 ?_) | refine jD ?_ | refine ⟨snc, _, snr, ?_⟩ | refine ⟨⟨Nat.le_refl _, rfl⟩, [], rfl, ?_⟩ | refine And.intro ⟨rfl, rfl, by decide, rfl⟩ ?_ | refine jP ?_ | refine jO ?_ | refine jX ?_ | refine jb jr ?_ | refine jb ofs ?_ | refine ko jc ?_ | refine ko jp ?_ | refine jM ?_ | refine kr ?_ | refine ko rfl ?_ | refine And.intro (cs_shal _) ?_ | refine And.intro (rfl : List.all _ _ = true) ?_ | refine And.intro ⟨rfl, (rfl : List.all _ _ = true)⟩ ?_ | exact ⟨rfl, rfl⟩ | exact jV | fail))
  all_goals exact ⟨by simp [*], rfl⟩

theorem cx91 {P : Program} {X : FuncId → List Arg → List (Bool × List Cell) → List (Option (List Cell)) → Prop} {a : List Arg} {Q : List (Bool × List Cell) → List (Option (List Cell)) → Prop} (h : ∃ b vals outs, a = b ∧ D P X (.call 91 b vals outs) ∧ Q vals outs) : CallS P X 91 a Q := ⟨h⟩

set_option maxRecDepth 100000 in
theorem tx13 {m : Met} : T 13 [.val true (metC m)] [(true, metC m)] [none] := by
  refine w_call md [] Try.func13 rfl ?_
  repeat' ((conv => whnf); (first | refine k0 ?_ | refine jA fun _ => ?_ | refine jB fun _ => ?_ | refine kC (fun _ => ?_) fun _ => ?_ | refine jS ?_ | refine jI ?_ | refine jD ?_ | refine ⟨snc, _, snr, ?_⟩ | refine ⟨⟨Nat.le_refl _, rfl⟩, [], rfl, ?_⟩ | refine And.intro ⟨rfl, rfl, by decide, rfl⟩ ?_ | refine jP ?_ | refine jO ?_ | refine jX ?_ | refine jb jr ?_ | refine jb ofs ?_ | refine ko jc ?_ | refine ko jp ?_ | refine jM ?_ | refine kr ?_ | refine ko rfl ?_ | refine And.intro (cs_shal _) ?_ | refine And.intro (rfl : List.all _ _ = true) ?_ | refine And.intro ⟨rfl, (rfl : List.all _ _ = true)⟩ ?_ | exact ⟨rfl, rfl⟩ | exact jV | fail))

theorem cx13 {P : Program} {X : FuncId → List Arg → List (Bool × List Cell) → List (Option (List Cell)) → Prop} {a : List Arg} {Q : List (Bool × List Cell) → List (Option (List Cell)) → Prop} (h : ∃ b vals outs, a = b ∧ D P X (.call 13 b vals outs) ∧ Q vals outs) : CallS P X 13 a Q := ⟨h⟩

end Go.Proofs.Ytkggnekdjdnhiaa
