/- Functions of the program, each with what it gives back. -/
import Derived.Test.YtkimclpagokeaaaDoorKe
import Derived.Test.YtkimclpagokeaaaDoorChecked
import Derived.IntWalk
import Derived.Test.YtkimclpagokeaaaDoorMj
namespace Go.Proofs.YtkimclpagokeaaaDoor
open Go Go.RowKit Go.IntWalk
open Enc (sz cs)
attribute [local irreducible] IntKind.wrap

attribute [local irreducible] fbN
abbrev Tbs := List (List (List Vl))
/-- Tables without rows. -/
noncomputable def mdN (s : List Df) : Tbs := if fbN s = -1 then List.replicate s.length [] else []
theorem mdN_y {s : List Df} (h : fbN s = -1) : mdN s = List.replicate s.length [] := if_pos h
theorem mdN_n {s : List Df} (h : ¬ fbN s = -1) : mdN s = [] := if_neg h
theorem rep_nilT (q : Nat) : List.replicate q (Cell.sl true 0 1 []) = cs true (List.replicate q ([] : List (List Vl))) := by
  show _ = (List.replicate q ([] : List (List Vl))).map _
  rw [List.map_replicate]; rfl
theorem rep_snoT (q : Nat) : cs true (List.replicate q ([] : List (List Vl))) ++ [slE true ([] : List (List Vl))] ++ [] = cs true (List.replicate (q + 1) ([] : List (List Vl))) := by
  rw [List.replicate_succ', Enc.app, List.append_nil]; rfl

set_option maxRecDepth 100000 in
theorem tx7 {s : List Df} (hs : zSc s ≤ 2000000 := by first | assumption | omega | (simp; done) | (simp; omega)) : T 7 [aE s] [(true, [slE true (mdN s)])] [none] := by
  refine w_call md [[1]] Tryd.func7 rfl ?_
  obtain ⟨q1, q2⟩ := zSc_b hs
  by_cases h : fbN s = -1
  · rw [mdN_y h]
    have hF : T 16 [aE s] [vI (-1)] [none] := by
      have h2 := tx16 (s := s)
      rwa [h] at h2
    repeat' ((conv => whnf); (first | (apply cx16; refine kl (hF) ?_) | refine bstep (w_nils 2 1 s.length (hc := rep_nilT s.length)) ?_ | refine k0 ?_ | refine jA fun _ => ?_ | refine jB fun _ => ?_ | refine kC (fun _ => ?_) fun _ => ?_ | refine jS ?_ | refine jI ?_ | (apply cx16; refine kl tx16 ?_) | refine jD ?_ | refine ⟨snc, _, snr, ?_⟩ | refine ⟨⟨Nat.le_refl _, rfl⟩, [], rfl, ?_⟩ | refine And.intro ⟨rfl, rfl, by decide, rfl⟩ ?_ | refine jP ?_ | refine jO ?_ | refine jX ?_ | refine jb jr ?_ | refine jb ofs ?_ | refine ko jc ?_ | refine ko jp ?_ | refine jM ?_ | refine kr ?_ | refine ko rfl ?_ | refine And.intro (cs_shal _) ?_ | refine And.intro (rfl : List.all _ _ = true) ?_ | refine And.intro ⟨rfl, (rfl : List.all _ _ = true)⟩ ?_ | exact ⟨rfl, rfl⟩ | exact jV | fail))
    exact ⟨congrArg (fun m => [(true, [Cell.sl true m 1 (cs true (List.replicate s.length ([] : List (List Vl))))])]) List.length_replicate.symm, rfl⟩
  · rw [mdN_n h]
    repeat' ((conv => whnf); (first | (apply cx16; refine kl (tx16 (s := s)) ?_) | refine k0 ?_ | refine jA fun _ => ?_ | refine jB fun _ => ?_ | refine kC (fun _ => ?_) fun _ => ?_ | refine jS ?_ | refine jI ?_ | (apply cx16; refine kl tx16 ?_) | refine jD ?_ | refine ⟨snc, _, snr, ?_⟩ | refine ⟨⟨Nat.le_refl _, rfl⟩, [], rfl, ?_⟩ | refine And.intro ⟨rfl, rfl, by decide, rfl⟩ ?_ | refine jP ?_ | refine jO ?_ | refine jX ?_ | refine jb jr ?_ | refine jb ofs ?_ | refine ko jc ?_ | refine ko jp ?_ | refine jM ?_ | refine kr ?_ | refine ko rfl ?_ | refine And.intro (cs_shal _) ?_ | refine And.intro (rfl : List.all _ _ = true) ?_ | refine And.intro ⟨rfl, (rfl : List.all _ _ = true)⟩ ?_ | exact ⟨rfl, rfl⟩ | exact jV | fail))

theorem cx7 {P : Program} {X : FuncId → List Arg → List (Bool × List Cell) → List (Option (List Cell)) → Prop} {a : List Arg} {Q : List (Bool × List Cell) → List (Option (List Cell)) → Prop} (h : ∃ b vals outs, a = b ∧ D P X (.call 7 b vals outs) ∧ Q vals outs) : CallS P X 7 a Q := ⟨h⟩

theorem w_nlT {n : Nat} {t h nx tn} (i s' : Nat) (A C : List Cell) {cs0 cs1 : List Cell} (hi : look none h i = some (true, cs0) := by rfl) (h1 : cs0 = A ++ [.nil] ++ C := by first | rfl | simp) (h2 : A ++ [.sl true 0 s' []] ++ C = cs1 := by rfl) :
    WGh n ⟨t, h, nx, tn⟩ ⟨t, (i, some (true, cs1)) :: h, nx, tn⟩ := by
  subst h1 h2
  exact w_node i hi (CWs.app (CWs.app (CWs.refl _) (.cons .nilO .nil)) (CWs.refl _))

set_option maxHeartbeats 2000000 in
set_option maxRecDepth 100000 in
theorem tx5 {s : List Df} (hs : zSc s ≤ 2000000 := by first | assumption | omega | (simp; done) | (simp; omega)) : T 5 [aE s] [(true, [slE true (mdN s)])] [none] := by
  refine w_call md [[1]] Tryd.func5 rfl ?_
  obtain ⟨q1, q2⟩ := zSc_b hs
  by_cases h : fbN s = -1
  · rw [mdN_y h]
    have hF : T 14 [aE s] [vI (-1)] [none] := by
      have h2 := tx14 (s := s)
      rwa [h] at h2
    repeat' ((conv => whnf); (first | refine k0 ?_ | refine jA fun _ => ?_ | refine jB fun _ => ?_ | refine kC (fun _ => ?_) fun _ => ?_ | refine jS ?_ | refine jI ?_ | (apply cx14; refine kl tx14 ?_) | refine jD ?_ | refine ⟨snc, _, snr, ?_⟩ | refine ⟨⟨Nat.le_refl _, rfl⟩, [], rfl, ?_⟩ | refine And.intro ⟨rfl, rfl, by decide, rfl⟩ ?_ | refine jP ?_ | refine jO ?_ | refine jX ?_ | refine jb jr ?_ | refine jb ofs ?_ | refine ko jc ?_ | refine ko jp ?_ | refine jM ?_ | refine kr ?_ | refine ko rfl ?_ | refine And.intro (cs_shal _) ?_ | refine And.intro (rfl : List.all _ _ = true) ?_ | refine And.intro ⟨rfl, (rfl : List.all _ _ = true)⟩ ?_ | exact ⟨rfl, rfl⟩ | exact jV | fail))
    conv => whnf
    refine loopk (ι := Nat) (fun i => i ≤ s.length) (fun i => s.length - i) (0) [0, 2] (fun i => [(3, .v false [.ptr 2 0]), (4, .v false [i6 i])]) [none, none, some fun i => some (true, [.ref 3 0 i 1]), some fun i => some (true, cs true (List.replicate i ([] : List (List Vl))))] ?_
    refine ⟨by omega, ?_, fun i hi => ?_⟩
    · exact (w_nilN 2 1 [] []).trans (jw [2])
    · by_cases hlt : i < s.length
      · repeat' ((conv => whnf); (first | (apply cx14; refine kl (hF) ?_) | refine Exists.intro _ (Exists.intro _ (And.intro rfl (And.intro ⟨by simp <;> omega, bgb (by omega), bg (by omega)⟩ (apR (xs := List.replicate i ([] : List (List Vl))) ?_)))) | refine k0 ?_ | refine jA fun _ => ?_ | refine jB fun _ => ?_ | refine kC (fun _ => ?_) fun _ => ?_ | refine jS ?_ | refine jI ?_ | (apply cx14; refine kl tx14 ?_) | refine jD ?_ | refine ⟨snc, _, snr, ?_⟩ | refine ⟨⟨Nat.le_refl _, rfl⟩, [], rfl, ?_⟩ | refine And.intro ⟨rfl, rfl, by decide, rfl⟩ ?_ | refine jP ?_ | refine jO ?_ | refine jX ?_ | refine jb jr ?_ | refine jb ofs ?_ | refine ko jc ?_ | refine ko jp ?_ | refine jM ?_ | refine kr ?_ | refine ko rfl ?_ | refine And.intro (cs_shal _) ?_ | refine And.intro (rfl : List.all _ _ = true) ?_ | refine And.intro ⟨rfl, (rfl : List.all _ _ = true)⟩ ?_ | exact ⟨rfl, rfl⟩ | exact jV | fail))
        refine ⟨⟨i + 1, by omega⟩, by simp only; omega, (w_nlT 5 1 (cs true (List.replicate i ([] : List (List Vl)))) [] (h2 := rep_snoT i)).trans ?_⟩
        exact jw [2]
      · obtain rfl : i = s.length := by omega
        repeat' ((conv => whnf); (first | refine k0 ?_ | refine jA fun _ => ?_ | refine jB fun _ => ?_ | refine kC (fun _ => ?_) fun _ => ?_ | refine jS ?_ | refine jI ?_ | (apply cx14; refine kl tx14 ?_) | refine jD ?_ | refine ⟨snc, _, snr, ?_⟩ | refine ⟨⟨Nat.le_refl _, rfl⟩, [], rfl, ?_⟩ | refine And.intro ⟨rfl, rfl, by decide, rfl⟩ ?_ | refine jP ?_ | refine jO ?_ | refine jX ?_ | refine jb jr ?_ | refine jb ofs ?_ | refine ko jc ?_ | refine ko jp ?_ | refine jM ?_ | refine kr ?_ | refine ko rfl ?_ | refine And.intro (cs_shal _) ?_ | refine And.intro (rfl : List.all _ _ = true) ?_ | refine And.intro ⟨rfl, (rfl : List.all _ _ = true)⟩ ?_ | exact ⟨rfl, rfl⟩ | exact jV | fail))
        exact ⟨congrArg (fun m => [(true, [Cell.sl true m 1 (cs true (List.replicate s.length ([] : List (List Vl))))])]) List.length_replicate.symm, rfl⟩
  · rw [mdN_n h]
    repeat' ((conv => whnf); (first | refine k0 ?_ | refine jA fun _ => ?_ | refine jB fun _ => ?_ | refine kC (fun _ => ?_) fun _ => ?_ | refine jS ?_ | refine jI ?_ | (apply cx14; refine kl tx14 ?_) | refine jD ?_ | refine ⟨snc, _, snr, ?_⟩ | refine ⟨⟨Nat.le_refl _, rfl⟩, [], rfl, ?_⟩ | refine And.intro ⟨rfl, rfl, by decide, rfl⟩ ?_ | refine jP ?_ | refine jO ?_ | refine jX ?_ | refine jb jr ?_ | refine jb ofs ?_ | refine ko jc ?_ | refine ko jp ?_ | refine jM ?_ | refine kr ?_ | refine ko rfl ?_ | refine And.intro (cs_shal _) ?_ | refine And.intro (rfl : List.all _ _ = true) ?_ | refine And.intro ⟨rfl, (rfl : List.all _ _ = true)⟩ ?_ | exact ⟨rfl, rfl⟩ | exact jV | fail))
    conv => whnf
    refine loopk (ι := Nat) (fun i => i = 0) (fun i => 0) (0) [0, 2, 3] (fun i => [(4, .v false [i6 i])]) [none, none, none] ?_
    refine ⟨rfl, ?_, fun i hi => ?_⟩
    · exact jw []
    · subst hi
      by_cases hz : s.length = 0
      · repeat' ((conv => whnf); (first | refine k0 ?_ | refine jA fun _ => ?_ | refine jB fun _ => ?_ | refine kC (fun _ => ?_) fun _ => ?_ | refine jS ?_ | refine jI ?_ | (apply cx14; refine kl tx14 ?_) | refine jD ?_ | refine ⟨snc, _, snr, ?_⟩ | refine ⟨⟨Nat.le_refl _, rfl⟩, [], rfl, ?_⟩ | refine And.intro ⟨rfl, rfl, by decide, rfl⟩ ?_ | refine jP ?_ | refine jO ?_ | refine jX ?_ | refine jb jr ?_ | refine jb ofs ?_ | refine ko jc ?_ | refine ko jp ?_ | refine jM ?_ | refine kr ?_ | refine ko rfl ?_ | refine And.intro (cs_shal _) ?_ | refine And.intro (rfl : List.all _ _ = true) ?_ | refine And.intro ⟨rfl, (rfl : List.all _ _ = true)⟩ ?_ | exact ⟨rfl, rfl⟩ | exact jV | fail))
      · repeat' ((conv => whnf); (first | (apply cx14; refine kl (tx14 (s := s)) ?_) | refine k0 ?_ | refine jA fun _ => ?_ | refine jB fun _ => ?_ | refine kC (fun _ => ?_) fun _ => ?_ | refine jS ?_ | refine jI ?_ | (apply cx14; refine kl tx14 ?_) | refine jD ?_ | refine ⟨snc, _, snr, ?_⟩ | refine ⟨⟨Nat.le_refl _, rfl⟩, [], rfl, ?_⟩ | refine And.intro ⟨rfl, rfl, by decide, rfl⟩ ?_ | refine jP ?_ | refine jO ?_ | refine jX ?_ | refine jb jr ?_ | refine jb ofs ?_ | refine ko jc ?_ | refine ko jp ?_ | refine jM ?_ | refine kr ?_ | refine ko rfl ?_ | refine And.intro (cs_shal _) ?_ | refine And.intro (rfl : List.all _ _ = true) ?_ | refine And.intro ⟨rfl, (rfl : List.all _ _ = true)⟩ ?_ | exact ⟨rfl, rfl⟩ | exact jV | fail))

theorem cx5 {P : Program} {X : FuncId → List Arg → List (Bool × List Cell) → List (Option (List Cell)) → Prop} {a : List Arg} {Q : List (Bool × List Cell) → List (Option (List Cell)) → Prop} (h : ∃ b vals outs, a = b ∧ D P X (.call 5 b vals outs) ∧ Q vals outs) : CallS P X 5 a Q := ⟨h⟩

end Go.Proofs.YtkimclpagokeaaaDoor
