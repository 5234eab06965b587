/- Functions of the program, each with what it gives back. -/
import Derived.Test.YtopnaijeicknoaaGreatDoorKe
import Derived.Test.YtopnaijeicknoaaGreatDoorChecked
import Derived.IntWalk
import Derived.Test.YtopnaijeicknoaaGreatDoorMi
namespace Go.Proofs.YtopnaijeicknoaaGreatDoor
open Go Go.RowKit Go.IntWalk
open Enc (sz cs)
attribute [local irreducible] IntKind.wrap

attribute [local irreducible] cdN fstI
theorem zSc_b {s : List Df} (h : zSc s ≤ 2000000) : s.length ≤ 2000000 ∧ ∀ i (h : i < s.length), zDf s[i] ≤ 2000000 := by
  unfold zSc at h
  refine ⟨by omega, fun i hi => ?_⟩
  have := cnt_mem (c := zDf) (List.getElem_mem hi)
  omega
theorem all_s {p : Nat → Prop} {i : Nat} (h : ∀ j, j < i → p j) (hi : p i) : ∀ j, j < i + 1 → p j := fun j hj => by
  by_cases e : j = i
  · subst e; exact hi
  · exact h j (by omega)
theorem badP_a {s : List Df} {a : Nat} (ha : a < s.length) (h3 : ¬ 3 ≤ a) (hc : cdN s[a] = 0) (hn : ∀ j (hj : j < a), s[j].name ≠ s[a].name) : ¬ badP s a := fun q => by
  rcases q with q | ⟨_, q | ⟨j, hj, q⟩⟩
  · exact h3 q
  · exact q hc
  · exact hn j hj q

set_option maxHeartbeats 2000000 in
set_option maxRecDepth 100000 in
theorem tx35 {s : List Df} (hs : zSc s ≤ 2000000 := by first | assumption | omega | (simp; done) | (simp; omega)) : T 35 [aE s] [vI (fbN s)] [none] := by
  refine w_call md [] Tryz.func35 rfl ?_
  obtain ⟨q1, q2⟩ := zSc_b hs
  repeat' ((conv => whnf); (first | refine k0 ?_ | refine jA fun _ => ?_ | refine jB fun _ => ?_ | refine kC (fun _ => ?_) fun _ => ?_ | (apply cx74; refine kl tx74 ?_) | refine jst ?_ | exact ⟨rfl, rfl⟩ | exact jV | fail))
  conv => whnf
  refine loopk (ι := Nat) (fun i => i ≤ s.length ∧ ∀ j, j < i → ¬ badP s j) (fun i => s.length - i) (0) [0, 7, 8] (fun i => [(9, .v false [i6 i])]) [none] ?_
  refine ⟨⟨by omega, by intros; omega⟩, ?_, fun a ha => ?_⟩
  · exact jw []
  · repeat' ((conv => whnf); (first | refine k0 ?_ | (apply cx74; refine kl tx74 ?_) | refine jst ?_ | exact ⟨rfl, rfl⟩ | exact jV | fail))
    conv => whnf
    refine ⟨fun hlt => ?_, fun hge => ?_⟩
    · have ha2 : a < s.length := by omega
      have hz := q2 a ha2
      have htk : (s.take a).length = a := by rw [List.length_take]; omega
      by_cases h3 : 3 ≤ a
      · repeat' ((conv => whnf); (first | refine k0 ?_ | refine jA fun _ => ?_ | refine jB fun _ => ?_ | refine kC (fun _ => ?_) fun _ => ?_ | (apply cx74; refine kl tx74 ?_) | refine jst ?_ | exact ⟨rfl, rfl⟩ | exact jV | fail))
        exact ⟨vI1 (fstI_at ha2 (.inl h3) ha.2), rfl⟩
      · by_cases hc : cdN s[a] = 0
        · have hC : T 74 [.val true (dfC false s[a])] [vI 0] [none] := by
            have h := tx74 (d := s[a])
            rwa [hc] at h
          repeat' ((conv => whnf); (first | (apply cx74; refine kl (hC) ?_) | refine Exists.intro _ (Exists.intro _ (Exists.intro _ (And.intro rfl (And.intro bndN (And.intro (sl_to (by omega)) ?_))))) | refine k0 ?_ | refine jA fun _ => ?_ | refine jB fun _ => ?_ | refine kC (fun _ => ?_) fun _ => ?_ | (apply cx74; refine kl tx74 ?_) | refine jst ?_ | exact ⟨rfl, rfl⟩ | exact jV | fail))
          conv => whnf
          refine loopk (ι := Nat) (fun i => i ≤ a ∧ ∀ k (hk : k < a), k < i → s[k].name ≠ s[a].name) (fun i => a - i) (0) [0, 3, 4, 7, 8, 9, 24, 25] (fun i => [(26, .v false [i6 i])]) [none, none] ?_
          refine ⟨⟨by omega, by intros; omega⟩, ?_, fun b hb => ?_⟩
          · exact jw []
          · repeat' ((conv => whnf); (first | refine k0 ?_ | (apply cx74; refine kl tx74 ?_) | refine jst ?_ | exact ⟨rfl, rfl⟩ | exact jV | fail))
            conv => whnf
            refine ⟨fun hlt => ?_, fun hge => ?_⟩
            · have hb2 : b < (s.take a).length := by omega
              have hb3 : b < a := by omega
              have eg : (s.take a)[b] = s[b] := List.getElem_take
              repeat' ((conv => whnf); (first | refine k0 ?_ | refine jA fun _ => ?_ | refine jB fun _ => ?_ | refine kC (fun _ => ?_) fun _ => ?_ | (apply cx74; refine kl tx74 ?_) | refine jst ?_ | exact ⟨rfl, rfl⟩ | exact jV | fail))
              · have e : s[b].name = s[a].name := by rw [← eg]; exact ba_eq ‹_›
                exact ⟨vI1 (fstI_at ha2 (.inr ⟨ha2, .inr ⟨b, hb3, e⟩⟩) ha.2), rfl⟩
              · have e : s[b].name ≠ s[a].name := fun e => absurd (congrArg ByteArray.toList e) (by rw [← eg]; assumption)
                refine ⟨⟨b + 1, by omega, all_suc hb.2 hb3 e⟩, by simp only; omega, ?_⟩
                exact jw []
            · obtain rfl : b = a := by omega
              repeat' ((conv => whnf); (first | refine k0 ?_ | refine jA fun _ => ?_ | refine jB fun _ => ?_ | refine kC (fun _ => ?_) fun _ => ?_ | (apply cx74; refine kl tx74 ?_) | refine jst ?_ | exact ⟨rfl, rfl⟩ | exact jV | fail))
              refine ⟨⟨b + 1, by omega, all_s ha.2 (badP_a ha2 h3 hc (fun k hk => hb.2 k hk hk))⟩, by simp only; omega, ?_⟩
              exact jw []
        · repeat' ((conv => whnf); (first | (apply cx74; refine kl (tx74 (d := s[a])) ?_) | refine k0 ?_ | refine jA fun _ => ?_ | refine jB fun _ => ?_ | refine kC (fun _ => ?_) fun _ => ?_ | (apply cx74; refine kl tx74 ?_) | refine jst ?_ | exact ⟨rfl, rfl⟩ | exact jV | fail))
          exact ⟨vI1 (fstI_at ha2 (.inr ⟨ha2, .inl hc⟩) ha.2), rfl⟩
    · obtain rfl : a = s.length := by omega
      repeat' ((conv => whnf); (first | refine k0 ?_ | refine jA fun _ => ?_ | refine jB fun _ => ?_ | refine kC (fun _ => ?_) fun _ => ?_ | (apply cx74; refine kl tx74 ?_) | refine jst ?_ | exact ⟨rfl, rfl⟩ | exact jV | fail))
      exact ⟨vI1 (fstI_no ha.2), rfl⟩

theorem cx35 {P : Program} {X : FuncId → List Arg → List (Bool × List Cell) → List (Option (List Cell)) → Prop} {a : List Arg} {Q : List (Bool × List Cell) → List (Option (List Cell)) → Prop} (h : ∃ b vals outs, a = b ∧ D P X (.call 35 b vals outs) ∧ Q vals outs) : CallS P X 35 a Q := ⟨h⟩

set_option maxHeartbeats 2000000 in
set_option maxRecDepth 100000 in
theorem tx31 {s : List Df} (hs : zSc s ≤ 2000000 := by first | assumption | omega | (simp; done) | (simp; omega)) : T 31 [aE s] [vI (fbN s)] [none] := by
  refine w_call md [] Tryz.func31 rfl ?_
  obtain ⟨q1, q2⟩ := zSc_b hs
  repeat' ((conv => whnf); (first | refine k0 ?_ | refine jA fun _ => ?_ | refine jB fun _ => ?_ | refine kC (fun _ => ?_) fun _ => ?_ | (apply cx63; refine kl tx63 ?_) | refine jst ?_ | exact ⟨rfl, rfl⟩ | exact jV | fail))
  conv => whnf
  refine loopk (ι := Nat) (fun i => i ≤ s.length ∧ ∀ j, j < i → ¬ badP s j) (fun i => s.length - i) (0) [0] (fun i => [(3, .v false [i6 i])]) [none] ?_
  refine ⟨⟨by omega, by intros; omega⟩, ?_, fun a ha => ?_⟩
  · exact jw []
  · repeat' ((conv => whnf); (first | refine k0 ?_ | (apply cx63; refine kl tx63 ?_) | refine jst ?_ | exact ⟨rfl, rfl⟩ | exact jV | fail))
    conv => whnf
    refine ⟨fun hlt => ?_, fun hge => ?_⟩
    · have ha2 : a < s.length := by omega
      have hz := q2 a ha2
      by_cases hc : cdN s[a] = 0
      · have hC : T 63 [.val true (dfC false s[a])] [vI 0] [none] := by
          have h := tx63 (d := s[a])
          rwa [hc] at h
        by_cases h3 : 3 ≤ a
        · repeat' ((conv => whnf); (first | (apply cx63; refine kl (hC) ?_) | refine k0 ?_ | refine jA fun _ => ?_ | refine jB fun _ => ?_ | refine kC (fun _ => ?_) fun _ => ?_ | (apply cx63; refine kl tx63 ?_) | refine jst ?_ | exact ⟨rfl, rfl⟩ | exact jV | fail))
          exact ⟨vI1 (fstI_at ha2 (.inl h3) ha.2), rfl⟩
        · repeat' ((conv => whnf); (first | (apply cx63; refine kl (hC) ?_) | refine k0 ?_ | refine jA fun _ => ?_ | refine jB fun _ => ?_ | refine kC (fun _ => ?_) fun _ => ?_ | (apply cx63; refine kl tx63 ?_) | refine jst ?_ | exact ⟨rfl, rfl⟩ | exact jV | fail))
          conv => whnf
          refine loopk (ι := Nat) (fun i => i ≤ a ∧ ∀ k (hk : k < a), k < i → s[k].name ≠ s[a].name) (fun i => a - i) (0) [0, 3] (fun i => [(4, .v false [i6 i])]) [none] ?_
          refine ⟨⟨by omega, by intros; omega⟩, ?_, fun b hb => ?_⟩
          · exact jw []
          · repeat' ((conv => whnf); (first | refine k0 ?_ | (apply cx63; refine kl tx63 ?_) | refine jst ?_ | exact ⟨rfl, rfl⟩ | exact jV | fail))
            conv => whnf
            refine ⟨fun hlt => ?_, fun hge => ?_⟩
            · have hb2 : b < s.length := by omega
              have hb3 : b < a := by omega
              repeat' ((conv => whnf); (first | refine k0 ?_ | refine jA fun _ => ?_ | refine jB fun _ => ?_ | refine kC (fun _ => ?_) fun _ => ?_ | (apply cx63; refine kl tx63 ?_) | refine jst ?_ | exact ⟨rfl, rfl⟩ | exact jV | fail))
              · exact ⟨vI1 (fstI_at ha2 (.inr ⟨ha2, .inr ⟨b, hb3, ba_eq ‹_›⟩⟩) ha.2), rfl⟩
              · refine ⟨⟨b + 1, by omega, all_suc hb.2 hb3 (fun e => absurd (congrArg ByteArray.toList e) ‹_›)⟩, by simp only; omega, ?_⟩
                exact jw []
            · obtain rfl : b = a := by omega
              repeat' ((conv => whnf); (first | refine k0 ?_ | refine jA fun _ => ?_ | refine jB fun _ => ?_ | refine kC (fun _ => ?_) fun _ => ?_ | (apply cx63; refine kl tx63 ?_) | refine jst ?_ | exact ⟨rfl, rfl⟩ | exact jV | fail))
              refine ⟨⟨b + 1, by omega, all_s ha.2 (badP_a ha2 h3 hc (fun k hk => hb.2 k hk hk))⟩, by simp only; omega, ?_⟩
              exact jw []
      · repeat' ((conv => whnf); (first | (apply cx63; refine kl (tx63 (d := s[a])) ?_) | refine k0 ?_ | refine jA fun _ => ?_ | refine jB fun _ => ?_ | refine kC (fun _ => ?_) fun _ => ?_ | (apply cx63; refine kl tx63 ?_) | refine jst ?_ | exact ⟨rfl, rfl⟩ | exact jV | fail))
        exact ⟨vI1 (fstI_at ha2 (.inr ⟨ha2, .inl hc⟩) ha.2), rfl⟩
    · obtain rfl : a = s.length := by omega
      repeat' ((conv => whnf); (first | refine k0 ?_ | refine jA fun _ => ?_ | refine jB fun _ => ?_ | refine kC (fun _ => ?_) fun _ => ?_ | (apply cx63; refine kl tx63 ?_) | refine jst ?_ | exact ⟨rfl, rfl⟩ | exact jV | fail))
      exact ⟨vI1 (fstI_no ha.2), rfl⟩

theorem cx31 {P : Program} {X : FuncId → List Arg → List (Bool × List Cell) → List (Option (List Cell)) → Prop} {a : List Arg} {Q : List (Bool × List Cell) → List (Option (List Cell)) → Prop} (h : ∃ b vals outs, a = b ∧ D P X (.call 31 b vals outs) ∧ Q vals outs) : CallS P X 31 a Q := ⟨h⟩

end Go.Proofs.YtopnaijeicknoaaGreatDoor
