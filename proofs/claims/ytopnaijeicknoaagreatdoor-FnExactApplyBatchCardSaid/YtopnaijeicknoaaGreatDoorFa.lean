/- Functions of the program, each with what it gives back. -/
import Derived.Test.YtopnaijeicknoaaGreatDoorKe
import Derived.Test.YtopnaijeicknoaaGreatDoorChecked
import Derived.IntWalk
namespace Go.Proofs.YtopnaijeicknoaaGreatDoor
open Go Go.RowKit Go.IntWalk
open Enc (sz cs)
attribute [local irreducible] IntKind.wrap

def md : FuncId → List Mode
  | 155 => [.own 1]
  | 157 => [.own 1]
  | 158 => [.own 1]
  | 57 => [.own 3]
  | 98 => [.own 1]
  | 56 => [.own 1]
  | 20 => [.str]
  | 53 => [.own 3]
  | 54 => [.own 2]
  | 55 => [.own 3]
  | 19 => [.own 4]
  | 177 => [.own 1]
  | 191 => [.own 1]
  | 156 => [.own 1]
  | 192 => [.own 1]
  | 185 => [.own 1]
  | 21 => [.str]
  | 28 => [.own 3]
  | _ => []

def X0 : FuncId → List Arg → List (Bool × List Cell) → List (Option (List Cell)) → Prop := fun f a v o => (f = 169 ∧ a = [.val false [s1 ⟨#[116, 97, 98, 108, 101, 32, 112, 114, 105, 109, 97, 114, 121, 32, 117, 110, 105, 113, 117, 101, 32, 105, 110, 100, 101, 120, 32, 110, 117, 108, 108, 32, 100, 101, 115, 99, 32, 105, 110, 116, 32, 110, 117, 109, 32, 116, 101, 120, 116, 32, 98, 111, 111, 108]⟩], .val false [s1 ⟨#[32]⟩]] ∧ v = [(false, [.sl true 10 1 [s1 ⟨#[116, 97, 98, 108, 101]⟩, s1 ⟨#[112, 114, 105, 109, 97, 114, 121]⟩, s1 ⟨#[117, 110, 105, 113, 117, 101]⟩, s1 ⟨#[105, 110, 100, 101, 120]⟩, s1 ⟨#[110, 117, 108, 108]⟩, s1 ⟨#[100, 101, 115, 99]⟩, s1 ⟨#[105, 110, 116]⟩, s1 ⟨#[110, 117, 109]⟩, s1 ⟨#[116, 101, 120, 116]⟩, s1 ⟨#[98, 111, 111, 108]⟩]])] ∧ o = [none, none])

abbrev T (f : FuncId) (a : List Arg) (vals : List (Bool × List Cell)) (outs : List (Option (List Cell))) : Prop := D Tryz.prog X0 (.call f a vals outs)
abbrev aI (n : Int) : Arg := .val false [i6 n]
abbrev aB (n : Bool) : Arg := .val false [b1 n]
abbrev aS (n : ByteArray) : Arg := .val false [s1 n]
abbrev aE {α : Type} [Enc α] (xs : List α) : Arg := .val false [slE false xs]
abbrev aO {α : Type} [Enc α] (xs : List α) : Arg := .own false xs.length (sz α) (cs true xs)
abbrev vI (n : Int) : Bool × List Cell := (false, [i6 n])
abbrev vB (b : Bool) : Bool × List Cell := (false, [b1 b])
abbrev vS (b : ByteArray) : Bool × List Cell := (false, [s1 b])
abbrev vE {α : Type} [Enc α] (xs : List α) : Bool × List Cell := (false, [slE true xs])

theorem vIe {a b : Int} (h : a = b) : [vI a] = [vI b] := by rw [h]
theorem jV {a b : Int} {β : Type} {x y : β} (h : a = b := by omega) (h2 : x = y := by rfl) : [vI a] = [vI b] ∧ x = y := ⟨vIe h, h2⟩

set_option maxRecDepth 100000 in
theorem tx48 {n l h : Int} : T 48 [aI n, aI l, aI h] [vB (inB n l h)] [none, none, none] := by
  refine w_call md [] Tryz.func48 rfl ?_
  repeat' ((conv => whnf); (first | refine k0 ?_ | refine jA fun _ => ?_ | refine jB fun _ => ?_ | refine kC (fun _ => ?_) fun _ => ?_ | refine jS ?_ | refine jI ?_ | refine jD ?_ | refine ⟨snc, _, snr, ?_⟩ | refine ⟨⟨Nat.le_refl _, rfl⟩, [], rfl, ?_⟩ | refine And.intro ⟨rfl, rfl, by decide, rfl⟩ ?_ | refine jP ?_ | refine jO ?_ | refine jX ?_ | refine jb jr ?_ | refine jb ofs ?_ | refine ko jc ?_ | refine ko jp ?_ | refine jM ?_ | refine kr ?_ | refine ko rfl ?_ | refine And.intro (cs_shal _) ?_ | refine And.intro (rfl : List.all _ _ = true) ?_ | refine And.intro ⟨rfl, (rfl : List.all _ _ = true)⟩ ?_ | exact ⟨rfl, rfl⟩ | exact jV | fail))
  all_goals exact ⟨by simp [inB]; omega, rfl⟩

theorem cx48 {P : Program} {X : FuncId → List Arg → List (Bool × List Cell) → List (Option (List Cell)) → Prop} {a : List Arg} {Q : List (Bool × List Cell) → List (Option (List Cell)) → Prop} (h : ∃ b vals outs, a = b ∧ D P X (.call 48 b vals outs) ∧ Q vals outs) : CallS P X 48 a Q := ⟨h⟩

set_option maxRecDepth 100000 in
theorem tx88 {n l h : Int} : T 88 [aI n, aI l, aI h] [vB (inB n l h)] [none, none, none] := by
  refine w_call md [] Tryz.func88 rfl ?_
  repeat' ((conv => whnf); (first | refine k0 ?_ | refine jA fun _ => ?_ | refine jB fun _ => ?_ | refine kC (fun _ => ?_) fun _ => ?_ | refine jS ?_ | refine jI ?_ | refine jD ?_ | refine ⟨snc, _, snr, ?_⟩ | refine ⟨⟨Nat.le_refl _, rfl⟩, [], rfl, ?_⟩ | refine And.intro ⟨rfl, rfl, by decide, rfl⟩ ?_ | refine jP ?_ | refine jO ?_ | refine jX ?_ | refine jb jr ?_ | refine jb ofs ?_ | refine ko jc ?_ | refine ko jp ?_ | refine jM ?_ | refine kr ?_ | refine ko rfl ?_ | refine And.intro (cs_shal _) ?_ | refine And.intro (rfl : List.all _ _ = true) ?_ | refine And.intro ⟨rfl, (rfl : List.all _ _ = true)⟩ ?_ | exact ⟨rfl, rfl⟩ | exact jV | fail))
  all_goals exact ⟨by simp [inB]; omega, rfl⟩

theorem cx88 {P : Program} {X : FuncId → List Arg → List (Bool × List Cell) → List (Option (List Cell)) → Prop} {a : List Arg} {Q : List (Bool × List Cell) → List (Option (List Cell)) → Prop} (h : ∃ b vals outs, a = b ∧ D P X (.call 88 b vals outs) ∧ Q vals outs) : CallS P X 88 a Q := ⟨h⟩

/-- Held so that nothing but the step takes it. -/
structure Wrp (Q : Prop) : Prop where
  h : Q
theorem jst {P Q : Prop} (k : Q) (h : Wrp Q → P := by first | exact fun k => jS k.h | exact fun k => jI k.h | exact fun k => jD k.h | exact fun k => ⟨snc, _, snr, k.h⟩ | exact fun k => ⟨⟨Nat.le_refl _, rfl⟩, [], rfl, k.h⟩ | exact fun k => And.intro ⟨rfl, rfl, by decide, rfl⟩ k.h | exact fun k => jP k.h | exact fun k => jO k.h | exact fun k => jX k.h | exact fun k => jb jr k.h | exact fun k => jb ofs k.h | exact fun k => ko jc k.h | exact fun k => ko jp k.h | exact fun k => jM k.h | exact fun k => kr k.h | exact fun k => ko rfl k.h | exact fun k => And.intro (cs_shal _) k.h | exact fun k => And.intro (rfl : List.all _ _ = true) k.h | exact fun k => And.intro ⟨rfl, (rfl : List.all _ _ = true)⟩ k.h) : P := h ⟨k⟩

end Go.Proofs.YtopnaijeicknoaaGreatDoor
