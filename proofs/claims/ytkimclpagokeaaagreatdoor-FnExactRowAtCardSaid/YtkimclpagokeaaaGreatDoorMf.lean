/- Functions of the program, each with what it gives back. -/
import Derived.Test.YtkimclpagokeaaaGreatDoorKe
import Derived.Test.YtkimclpagokeaaaGreatDoorChecked
import Derived.IntWalk
import Derived.Test.YtkimclpagokeaaaGreatDoorMe
namespace Go.Proofs.YtkimclpagokeaaaGreatDoor
open Go Go.RowKit Go.IntWalk
open Enc (sz cs)
attribute [local irreducible] IntKind.wrap

set_option maxRecDepth 100000 in
theorem tx18 {l : List Vl} {a : Nat} (hl : l.length ≤ 10000000 := by first | assumption | omega | (simp; done) | (simp; omega)) (ha : a + 3 * l.length ≤ 1000000000000000000 := by first | assumption | omega | (simp; done) | (simp; omega)) {n : Nat} (hn : l.length = n := by first | rfl | simp) : T 18 [.val false [.sl false n (sz Vl) (cs false (mkL (fun _ => 3) mV a l))], aI (a : Nat)] [vI (a + 3 * l.length : Nat)] [none, none] := by
  refine w_call md [] Tryz.func18 rfl ?_
  have hlen : (mkL (fun _ => 3) mV a l).length = l.length := mkL_len
  have htot : cnt (fun _ => 3) l = 3 * l.length := by first | rfl | exact cnt_const _ _
  repeat' ((conv => whnf); (first | refine k0 ?_ | refine jA fun _ => ?_ | refine jB fun _ => ?_ | refine kC (fun _ => ?_) fun _ => ?_ | refine jS ?_ | refine jI ?_ | (apply cx34; refine kl tx34 ?_) | refine jD ?_ | refine ⟨snc, _, snr, ?_⟩ | refine ⟨⟨Nat.le_refl _, rfl⟩, [], rfl, ?_⟩ | refine And.intro ⟨rfl, rfl, by decide, rfl⟩ ?_ | refine jP ?_ | refine jO ?_ | refine jX ?_ | refine jb jr ?_ | refine jb ofs ?_ | refine ko jc ?_ | refine ko jp ?_ | refine jM ?_ | refine kr ?_ | refine ko rfl ?_ | refine And.intro (cs_shal _) ?_ | refine And.intro (rfl : List.all _ _ = true) ?_ | refine And.intro ⟨rfl, (rfl : List.all _ _ = true)⟩ ?_ | exact ⟨rfl, rfl⟩ | exact jV | fail))
  conv => whnf
  refine loopk (ι := Nat) (fun i => i ≤ l.length) (fun i => l.length - i) (0) [0] (fun i => [(1, .v false [i6 (a + cnt (fun _ => 3) (l.take i) : Nat)]), (5, .v false [i6 i])]) [none, none] ?_
  refine ⟨by omega, ?_, fun i hi => ?_⟩
  · exact jw []
  · have hle := cnt_le (c := (fun _ => 3)) (xs := l) (i := i)
    refine ⟨fun hlt => ?_, fun hge => ?_⟩
    · have hi2 : i < l.length := by omega
      have hc := cnt_take (c := (fun _ => 3)) hi2
      have hle2 := cnt_le (c := (fun _ => 3)) (xs := l) (i := i + 1)
      try dsimp only at hc
      skip
      repeat' ((conv => whnf); (first | refine And.intro ⟨by omega, by omega⟩ (Exists.intro _ (And.intro ((rd (by omega)).trans (by rw [mkL_get hi2])) ?_)) | refine k0 ?_ | refine jA fun _ => ?_ | refine jB fun _ => ?_ | refine kC (fun _ => ?_) fun _ => ?_ | refine jS ?_ | refine jI ?_ | (apply cx34; refine kl tx34 ?_) | refine jD ?_ | refine ⟨snc, _, snr, ?_⟩ | refine ⟨⟨Nat.le_refl _, rfl⟩, [], rfl, ?_⟩ | refine And.intro ⟨rfl, rfl, by decide, rfl⟩ ?_ | refine jP ?_ | refine jO ?_ | refine jX ?_ | refine jb jr ?_ | refine jb ofs ?_ | refine ko jc ?_ | refine ko jp ?_ | refine jM ?_ | refine kr ?_ | refine ko rfl ?_ | refine And.intro (cs_shal _) ?_ | refine And.intro (rfl : List.all _ _ = true) ?_ | refine And.intro ⟨rfl, (rfl : List.all _ _ = true)⟩ ?_ | exact ⟨rfl, rfl⟩ | exact jV | fail))
      refine ⟨⟨i + 1, by omega⟩, by simp only; omega, ?_⟩
      dsimp only
      exact jw []
    · obtain rfl : i = l.length := by omega
      have e : cnt (fun _ => 3) (l.take l.length) = cnt (fun _ => 3) l := by rw [List.take_length]
      repeat' ((conv => whnf); (first | refine k0 ?_ | refine jA fun _ => ?_ | refine jB fun _ => ?_ | refine kC (fun _ => ?_) fun _ => ?_ | refine jS ?_ | refine jI ?_ | (apply cx34; refine kl tx34 ?_) | refine jD ?_ | refine ⟨snc, _, snr, ?_⟩ | refine ⟨⟨Nat.le_refl _, rfl⟩, [], rfl, ?_⟩ | refine And.intro ⟨rfl, rfl, by decide, rfl⟩ ?_ | refine jP ?_ | refine jO ?_ | refine jX ?_ | refine jb jr ?_ | refine jb ofs ?_ | refine ko jc ?_ | refine ko jp ?_ | refine jM ?_ | refine kr ?_ | refine ko rfl ?_ | refine And.intro (cs_shal _) ?_ | refine And.intro (rfl : List.all _ _ = true) ?_ | refine And.intro ⟨rfl, (rfl : List.all _ _ = true)⟩ ?_ | exact ⟨rfl, rfl⟩ | exact jV | fail))

theorem cx18 {P : Program} {X : FuncId → List Arg → List (Bool × List Cell) → List (Option (List Cell)) → Prop} {a : List Arg} {Q : List (Bool × List Cell) → List (Option (List Cell)) → Prop} (h : ∃ b vals outs, a = b ∧ D P X (.call 18 b vals outs) ∧ Q vals outs) : CallS P X 18 a Q := ⟨h⟩

end Go.Proofs.YtkimclpagokeaaaGreatDoor
