/- Functions of the program, each with what it gives back. -/
import Derived.Test.YtopnaijeicknoaaGreatDoorKe
import Derived.Test.YtopnaijeicknoaaGreatDoorChecked
import Derived.IntWalk
import Derived.Test.YtopnaijeicknoaaGreatDoorLa
namespace Go.Proofs.YtopnaijeicknoaaGreatDoor
open Go Go.RowKit Go.IntWalk
open Enc (sz cs)
attribute [local irreducible] IntKind.wrap

set_option maxRecDepth 100000 in
theorem tx52 {a : Nat} (ha : a ≤ 4000000000000000000 := by first | assumption | omega | (simp; done) | (simp; omega)) : T 52 [aI (a : Nat)] [vS (mtx a)] [none] := by
  refine w_call md [] Tryz.func52 rfl ?_
  repeat' ((conv => whnf); (first | refine k0 ?_ | refine jA fun _ => ?_ | refine jB fun _ => ?_ | refine kC (fun _ => ?_) fun _ => ?_ | refine jS ?_ | refine jI ?_ | refine jD ?_ | refine ⟨snc, _, snr, ?_⟩ | refine ⟨⟨Nat.le_refl _, rfl⟩, [], rfl, ?_⟩ | refine And.intro ⟨rfl, rfl, by decide, rfl⟩ ?_ | refine jP ?_ | refine jO ?_ | refine jX ?_ | refine jb jr ?_ | refine jb ofs ?_ | refine ko jc ?_ | refine ko jp ?_ | refine jM ?_ | refine kr ?_ | refine ko rfl ?_ | refine And.intro (cs_shal _) ?_ | refine And.intro (rfl : List.all _ _ = true) ?_ | refine And.intro ⟨rfl, (rfl : List.all _ _ = true)⟩ ?_ | exact ⟨rfl, rfl⟩ | exact jV | fail))
  · exact ⟨by rw [mtx, if_pos (by omega)], rfl⟩
  conv => whnf
  refine loopk (ι := Nat × List UInt8) (fun i => digs i.1 ++ i.2 = digs a ∧ i.1 ≤ a) (fun i => i.1) ((a, [])) [] (fun i => [(0, .v false [i6 i.1]), (3, .v false [s1 (sb i.2)])]) [none] ?_
  refine ⟨⟨by simp, Nat.le_refl _⟩, ?_, fun ⟨m, l⟩ hi => ?_⟩
  · exact jw []
  · dsimp only at hi ⊢
    have hdl := digs_len 19 a (by omega)
    have hll : l.length ≤ 19 := by have := congrArg List.length hi.1; simp at this; omega
    refine ⟨fun hlt => ?_, fun hge => ?_⟩
    · repeat' ((conv => whnf); (first | refine ⟨by decide, ((m % 10 : Nat) : Int), by rw [Int.tmod_eq_emod_of_nonneg (by omega)]; rfl, ?_⟩ | refine ⟨((48 + m % 10 : Nat) : Int), (i64_in _ (by omega)).trans (by omega), ?_⟩ | refine ⟨_, u8n _, ?_⟩ | refine ⟨1, _, _, rfl, strOf_cs (o := true) (b := [UInt8.ofNat (48 + m % 10)]), ?_⟩ | refine ⟨by simp [ByteArray.size]; omega, ?_⟩ | refine ⟨by decide, ((m / 10 : Nat) : Int), i64_quo _ _ (by omega), ?_⟩ | refine k0 ?_ | refine jA fun _ => ?_ | refine jB fun _ => ?_ | refine kC (fun _ => ?_) fun _ => ?_ | refine jS ?_ | refine jI ?_ | refine jD ?_ | refine ⟨snc, _, snr, ?_⟩ | refine ⟨⟨Nat.le_refl _, rfl⟩, [], rfl, ?_⟩ | refine And.intro ⟨rfl, rfl, by decide, rfl⟩ ?_ | refine jP ?_ | refine jO ?_ | refine jX ?_ | refine jb jr ?_ | refine jb ofs ?_ | refine ko jc ?_ | refine ko jp ?_ | refine jM ?_ | refine kr ?_ | refine ko rfl ?_ | refine And.intro (cs_shal _) ?_ | refine And.intro (rfl : List.all _ _ = true) ?_ | refine And.intro ⟨rfl, (rfl : List.all _ _ = true)⟩ ?_ | exact ⟨rfl, rfl⟩ | exact jV | fail))
      refine ⟨⟨(m / 10, [UInt8.ofNat (48 + m % 10)] ++ l), by simp only; rw [← List.append_assoc, ← digs_pos (by omega)]; exact hi.1, by simp only; omega⟩, by simp only; omega, ?_⟩
      exact w_autoX [] (by (conv => whnf); exact And.intro (by kernel_rfl) (And.intro (by kernel_rfl) (by repeat' (first | (with_reducible exact rfl) | ((conv => whnf); first | exact trivial | exact (by rw [← sb_app]; rfl) | exact rfl | exact tvi (by first | omega | (dsimp only; omega) | (simp; done)) | exact tvr (by first | omega | (dsimp only; omega) | (simp; done) | (simp; omega)) | exact ⟨rfl, clo_i, by first | rfl | rw [List.take_length] | assumption⟩ | refine And.intro ?_ ?_)))))
    · obtain rfl : m = 0 := by omega
      have e : l = digs a := by have := hi.1; rwa [digs_zero] at this
      subst e
      repeat' ((conv => whnf); (first | refine ⟨by simp [ByteArray.size]; omega, ?_⟩ | refine k0 ?_ | refine jA fun _ => ?_ | refine jB fun _ => ?_ | refine kC (fun _ => ?_) fun _ => ?_ | refine jS ?_ | refine jI ?_ | refine jD ?_ | refine ⟨snc, _, snr, ?_⟩ | refine ⟨⟨Nat.le_refl _, rfl⟩, [], rfl, ?_⟩ | refine And.intro ⟨rfl, rfl, by decide, rfl⟩ ?_ | refine jP ?_ | refine jO ?_ | refine jX ?_ | refine jb jr ?_ | refine jb ofs ?_ | refine ko jc ?_ | refine ko jp ?_ | refine jM ?_ | refine kr ?_ | refine ko rfl ?_ | refine And.intro (cs_shal _) ?_ | refine And.intro (rfl : List.all _ _ = true) ?_ | refine And.intro ⟨rfl, (rfl : List.all _ _ = true)⟩ ?_ | exact ⟨rfl, rfl⟩ | exact jV | fail))
      exact ⟨by rw [mtx, if_neg (by omega)]; rfl, rfl⟩

theorem cx52 {P : Program} {X : FuncId → List Arg → List (Bool × List Cell) → List (Option (List Cell)) → Prop} {a : List Arg} {Q : List (Bool × List Cell) → List (Option (List Cell)) → Prop} (h : ∃ b vals outs, a = b ∧ D P X (.call 52 b vals outs) ∧ Q vals outs) : CallS P X 52 a Q := ⟨h⟩

end Go.Proofs.YtopnaijeicknoaaGreatDoor
