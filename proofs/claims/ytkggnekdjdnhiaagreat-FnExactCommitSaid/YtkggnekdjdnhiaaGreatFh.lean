/- Functions of the program, each with what it gives back. -/
import Derived.Test.YtkggnekdjdnhiaaGreatKe
import Derived.Test.YtkggnekdjdnhiaaGreatChecked
import Derived.IntWalk
import Derived.Test.YtkggnekdjdnhiaaGreatFg
namespace Go.Proofs.YtkggnekdjdnhiaaGreat
open Go Go.RowKit Go.IntWalk
open Enc (sz cs)
attribute [local irreducible] IntKind.wrap

/-- Held so that nothing but the step takes it. -/
structure Wrp (Q : Prop) : Prop where
  h : Q
theorem jst {P Q : Prop} (k : Q) (h : Wrp Q → P := by first | exact fun k => jS k.h | exact fun k => jI k.h | exact fun k => jD k.h | exact fun k => ⟨snc, _, snr, k.h⟩ | exact fun k => ⟨⟨Nat.le_refl _, rfl⟩, [], rfl, k.h⟩ | exact fun k => And.intro ⟨rfl, rfl, by decide, rfl⟩ k.h | exact fun k => jP k.h | exact fun k => jO k.h | exact fun k => jX k.h | exact fun k => jb jr k.h | exact fun k => jb ofs k.h | exact fun k => ko jc k.h | exact fun k => ko jp k.h | exact fun k => jM k.h | exact fun k => kr k.h | exact fun k => ko rfl k.h | exact fun k => And.intro (cs_shal _) k.h | exact fun k => And.intro (rfl : List.all _ _ = true) k.h | exact fun k => And.intro ⟨rfl, (rfl : List.all _ _ = true)⟩ k.h) : P := h ⟨k⟩

set_option maxRecDepth 100000 in
theorem tx60 {d : Dsk} (hd : zD d ≤ 2000000 := by first | assumption | omega | (simp; done) | (simp; omega)) : T 60 [.val true (dskC false d)] [(true, dskC true d)] [none] := by
  refine w_call md [[]] Tryz.func60 rfl ?_
  have hz : zD d = d.secs.length + cnt List.length d.secs + (d.cache.length + cnt (fun w : Wri => w.b.length) d.cache) + d.faults.length := rfl
  repeat' ((conv => whnf); (first | refine k0 ?_ | refine jA fun _ => ?_ | refine jB fun _ => ?_ | refine kC (fun _ => ?_) fun _ => ?_ | (apply cx108; refine kl tx108 ?_) | refine jst ?_ | exact ⟨rfl, rfl⟩ | exact jV | fail))
  conv => whnf
  refine loopk (ι := Nat) (fun i => i ≤ d.secs.length) (fun i => d.secs.length - i) (0) [1, 2, 10, 11] (fun i => [(3, .v false [.ref 3 0 i 1]), (12, .v false [i6 i])]) [none, none, none, some fun i => nE (d.secs.take i)] ?_
  refine ⟨by omega, ?_, fun i hi => ?_⟩
  · exact (w_virt 3 1 rfl rfl).trans (jw [])
  · refine ⟨fun hlt => ?_, fun hge => ?_⟩
    · have hi2 : i < d.secs.length := by omega
      have hc := cnt_ge (c := List.length) hi2
      repeat' ((conv => whnf); (first | refine Exists.intro _ (Exists.intro _ (And.intro rfl (And.intro ⟨by simp <;> omega, bgb (by omega), bg (by omega)⟩ (apR (xs := d.secs.take i) ?_)))) | refine k0 ?_ | refine jA fun _ => ?_ | refine jB fun _ => ?_ | refine kC (fun _ => ?_) fun _ => ?_ | (apply cx108; refine kl tx108 ?_) | refine jst ?_ | exact ⟨rfl, rfl⟩ | exact jV | fail))
      refine ⟨⟨i + 1, by omega⟩, by simp only; omega, (w_inE 6 4 (cs true (d.secs.take i)) d.secs[i] [] d.secs[i].length 1 (tk1 hi2 rfl)).trans ?_⟩
      exact jw []
    · obtain rfl : i = d.secs.length := by omega
      repeat' ((conv => whnf); (first | refine k0 ?_ | refine jA fun _ => ?_ | refine jB fun _ => ?_ | refine kC (fun _ => ?_) fun _ => ?_ | (apply cx108; refine kl tx108 ?_) | refine jst ?_ | exact ⟨rfl, rfl⟩ | exact jV | fail))
      conv => whnf
      refine loopk (ι := Nat) (fun i => i ≤ d.cache.length) (fun i => d.cache.length - i) (0) [1, 2, 3, 23, 24] (fun i => [(6, .v false [.ref 4 0 i 2]), (25, .v false [i6 i])]) [none, none, none, some fun _ => nE d.secs, some fun i => nE (d.cache.take i)] ?_
      refine ⟨by omega, ?_, fun i hi => ?_⟩
      · exact (w_virt 6 2 rfl rfl).trans (jw [])
      · refine ⟨fun hlt => ?_, fun hge => ?_⟩
        · have hi2 : i < d.cache.length := by omega
          have hc := cnt_ge (c := fun w : Wri => w.b.length) hi2
          repeat' ((conv => whnf); (first | refine Exists.intro _ (Exists.intro _ (And.intro rfl (And.intro ⟨by simp <;> omega, bgb (by omega), bg (by omega)⟩ (apR (xs := d.cache.take i) ?_)))) | refine k0 ?_ | refine jA fun _ => ?_ | refine jB fun _ => ?_ | refine kC (fun _ => ?_) fun _ => ?_ | (apply cx108; refine kl tx108 ?_) | refine jst ?_ | exact ⟨rfl, rfl⟩ | exact jV | fail))
          refine ⟨⟨i + 1, by omega⟩, by simp only; omega, (w_inE 134 86 (cs true (d.cache.take i) ++ [i6 d.cache[i].n]) d.cache[i].b [] d.cache[i].b.length 1 (tk2 hi2 rfl)).trans ?_⟩
          exact jw []
        · obtain rfl : i = d.cache.length := by omega
          repeat' ((conv => whnf); (first | refine Exists.intro _ (Exists.intro (cs true (_ : List Fau)) (And.intro rfl (And.intro ⟨bgb (by omega), bg1 (by omega)⟩ ?_))) | refine k0 ?_ | refine jA fun _ => ?_ | refine jB fun _ => ?_ | refine kC (fun _ => ?_) fun _ => ?_ | (apply cx108; refine kl tx108 ?_) | refine jst ?_ | exact ⟨rfl, rfl⟩ | exact jV | fail))
          exact ⟨by rw [List.take_length]; rfl, rfl⟩

theorem cx60 {P : Program} {X : FuncId → List Arg → List (Bool × List Cell) → List (Option (List Cell)) → Prop} {a : List Arg} {Q : List (Bool × List Cell) → List (Option (List Cell)) → Prop} (h : ∃ b vals outs, a = b ∧ D P X (.call 60 b vals outs) ∧ Q vals outs) : CallS P X 60 a Q := ⟨h⟩

set_option maxHeartbeats 2000000 in
set_option maxRecDepth 100000 in
theorem tx54 {d : Dsk} (hd : zD d ≤ 2000000 := by first | assumption | omega | (simp; done) | (simp; omega)) : T 54 [.val true (dskC false d)] [(true, dskC true d)] [none] := by
  refine w_call md [[]] Tryz.func54 rfl ?_
  have hz : zD d = d.secs.length + cnt List.length d.secs + (d.cache.length + cnt (fun w : Wri => w.b.length) d.cache) + d.faults.length := rfl
  repeat' ((conv => whnf); (first | refine Exists.intro _ (Exists.intro (cs true (_ : List Fau)) (And.intro rfl (And.intro ⟨Nat.le_refl _, bgb (by omega), bg (by omega)⟩ (Exists.intro _ (And.intro ape (Exists.intro _ (And.intro (Nat.zero_add _) ?_))))))) | refine k0 ?_ | refine jA fun _ => ?_ | refine jB fun _ => ?_ | refine kC (fun _ => ?_) fun _ => ?_ | refine jst ?_ | exact ⟨rfl, rfl⟩ | exact jV | fail))
  conv => whnf
  refine loopk (ι := Nat) (fun i => i ≤ d.secs.length) (fun i => d.secs.length - i) (0) [1, 2] (fun i => [(3, .v false [.ptr 3 0]), (4, .v false [i6 i])]) [none, none, none, some fun i => some (true, [.ref 5 0 i 1, .nil, i6 d.ops, .ref 4 0 d.faults.length 3, b1 d.down]), some fun _ => nE d.faults, some fun i => nE (d.secs.take i)] ?_
  refine ⟨by omega, ?_, fun i hi => ?_⟩
  · exact (w_nilN 147 1 [] [.nil, i6 d.ops, .ref 83 0 d.faults.length 3, b1 d.down]).trans (jw [3])
  · repeat' ((conv => whnf); (first | refine k0 ?_ | refine jst ?_ | exact ⟨rfl, rfl⟩ | exact jV | fail))
    conv => whnf
    refine ⟨fun hlt => ?_, fun hge => ?_⟩
    · have hi2 : i < d.secs.length := by omega
      have hc := cnt_ge (c := List.length) hi2
      repeat' ((conv => whnf); (first | refine Exists.intro _ (Exists.intro (cs true (_ : List UInt8)) (And.intro rfl (And.intro ⟨Nat.le_refl _, bgb (by omega), bg (by omega)⟩ (Exists.intro _ (And.intro ape (Exists.intro _ (And.intro (Nat.zero_add _) ?_))))))) | refine Exists.intro _ (Exists.intro _ (And.intro rfl (And.intro ⟨by simp <;> omega, bgb (by omega), bg (by omega)⟩ (apR (xs := d.secs.take i) ?_)))) | refine k0 ?_ | refine jA fun _ => ?_ | refine jB fun _ => ?_ | refine kC (fun _ => ?_) fun _ => ?_ | refine jst ?_ | exact ⟨rfl, rfl⟩ | exact jV | fail))
      refine ⟨⟨i + 1, by omega⟩, by simp only; omega, (w_inE 166 134 (cs true (d.secs.take i)) d.secs[i] [] d.secs[i].length 1 (tk1 hi2 rfl)).trans ?_⟩
      exact jw [3]
    · obtain rfl : i = d.secs.length := by omega
      repeat' ((conv => whnf); (first | refine k0 ?_ | refine jA fun _ => ?_ | refine jB fun _ => ?_ | refine kC (fun _ => ?_) fun _ => ?_ | refine jst ?_ | exact ⟨rfl, rfl⟩ | exact jV | fail))
      conv => whnf
      refine loopk (ι := Nat) (fun i => i ≤ d.cache.length) (fun i => d.cache.length - i) (0) [1, 2] (fun i => [(3, .v false [.ptr 3 0]), (5, .v false [i6 i])]) [none, none, none, some fun i => some (true, [.ref 5 0 d.secs.length 1, .ref 6 0 i 2, i6 d.ops, .ref 4 0 d.faults.length 3, b1 d.down]), some fun _ => nE d.faults, some fun _ => nE d.secs, some fun i => nE (d.cache.take i)] ?_
      refine ⟨by omega, ?_, fun i hi => ?_⟩
      · exact (w_nilN 3 2 [.ref 5 0 d.secs.length 1] [i6 d.ops, .ref 4 0 d.faults.length 3, b1 d.down]).trans (jw [3])
      · repeat' ((conv => whnf); (first | refine k0 ?_ | refine jst ?_ | exact ⟨rfl, rfl⟩ | exact jV | fail))
        conv => whnf
        refine ⟨fun hlt => ?_, fun hge => ?_⟩
        · have hi2 : i < d.cache.length := by omega
          have hc := cnt_ge (c := fun w : Wri => w.b.length) hi2
          repeat' ((conv => whnf); (first | refine Exists.intro _ (Exists.intro (cs true (_ : List UInt8)) (And.intro rfl (And.intro ⟨Nat.le_refl _, bgb (by omega), bg (by omega)⟩ (Exists.intro _ (And.intro ape (Exists.intro _ (And.intro (Nat.zero_add _) ?_))))))) | refine Exists.intro _ (Exists.intro _ (And.intro rfl (And.intro ⟨by simp <;> omega, bgb (by omega), bg (by omega)⟩ (apR (xs := d.cache.take i) ?_)))) | refine k0 ?_ | refine jA fun _ => ?_ | refine jB fun _ => ?_ | refine kC (fun _ => ?_) fun _ => ?_ | refine jst ?_ | exact ⟨rfl, rfl⟩ | exact jV | fail))
          refine ⟨⟨i + 1, by omega⟩, by simp only; omega, (w_inE 295 247 (cs true (d.cache.take i) ++ [i6 d.cache[i].n]) d.cache[i].b [] d.cache[i].b.length 1 (tk2 hi2 rfl)).trans ?_⟩
          exact jw [3]
        · obtain rfl : i = d.cache.length := by omega
          repeat' ((conv => whnf); (first | refine k0 ?_ | refine jA fun _ => ?_ | refine jB fun _ => ?_ | refine kC (fun _ => ?_) fun _ => ?_ | refine jst ?_ | exact ⟨rfl, rfl⟩ | exact jV | fail))
          exact ⟨by rw [List.take_length]; rfl, rfl⟩

theorem cx54 {P : Program} {X : FuncId → List Arg → List (Bool × List Cell) → List (Option (List Cell)) → Prop} {a : List Arg} {Q : List (Bool × List Cell) → List (Option (List Cell)) → Prop} (h : ∃ b vals outs, a = b ∧ D P X (.call 54 b vals outs) ∧ Q vals outs) : CallS P X 54 a Q := ⟨h⟩

theorem zD_down {d : Dsk} {b : Bool} : zD { d with down := b } = zD d := rfl

end Go.Proofs.YtkggnekdjdnhiaaGreat
