/- Functions of the program, each with what it gives back. -/
import Derived.Test.YtkggnekdjdnhiaaGreatKe
import Derived.Test.YtkggnekdjdnhiaaGreatChecked
import Derived.IntWalk
import Derived.Test.YtkggnekdjdnhiaaGreatLb
namespace Go.Proofs.YtkggnekdjdnhiaaGreat
open Go Go.RowKit Go.IntWalk
open Enc (sz cs)
attribute [local irreducible] IntKind.wrap

set_option maxRecDepth 100000 in
theorem tx69 {l : List (List UInt8)} {a : Nat} (hl : l.length ≤ 10000000 := by first | assumption | omega | (simp; done) | (simp; omega)) (ha : a + cnt List.length l ≤ 1000000000000000000 := by first | assumption | omega | (simp; done) | (simp; omega)) : T 69 [aO l, aI (a : Nat)] [vI (a + cnt List.length l : Nat)] [some (cs true (mkL List.length mB a l)), none] := by
  refine w_call md [] Tryz.func69 rfl ?_
  repeat' ((conv => whnf); (first | refine k0 ?_ | refine jA fun _ => ?_ | refine jB fun _ => ?_ | refine kC (fun _ => ?_) fun _ => ?_ | refine jS ?_ | refine jI ?_ | (apply cx120; refine kl tx120 ?_) | refine jD ?_ | refine ⟨snc, _, snr, ?_⟩ | refine ⟨⟨Nat.le_refl _, rfl⟩, [], rfl, ?_⟩ | refine And.intro ⟨rfl, rfl, by decide, rfl⟩ ?_ | refine jP ?_ | refine jO ?_ | refine jX ?_ | refine jb jr ?_ | refine jb ofs ?_ | refine ko jc ?_ | refine ko jp ?_ | refine jM ?_ | refine kr ?_ | refine ko rfl ?_ | refine And.intro (cs_shal _) ?_ | refine And.intro (rfl : List.all _ _ = true) ?_ | refine And.intro ⟨rfl, (rfl : List.all _ _ = true)⟩ ?_ | exact ⟨rfl, rfl⟩ | exact jV | fail))
  conv => whnf
  refine loopk (ι := Nat) (fun i => i ≤ l.length) (fun i => l.length - i) (0) [0] (fun i => [(1, .v false [i6 (a + cnt List.length (l.take i) : Nat)]), (5, .v false [i6 i])]) [some fun i => some (true, cs true (mkL List.length mB a (l.take i) ++ l.drop i)), none] ?_
  refine ⟨by omega, ?_, fun i hi => ?_⟩
  · exact jw []
  · have hle := cnt_le (c := List.length) (xs := l) (i := i)
    have htot : cnt List.length l = cnt List.length l := by first | rfl | exact cnt_const _ _
    refine ⟨fun hlt => ?_, fun hge => ?_⟩
    · have hi2 : i < l.length := by omega
      have hc := cnt_take (c := List.length) hi2
      have hle2 := cnt_le (c := List.length) (xs := l) (i := i + 1)
      have hA : (mkL List.length mB a (l.take i)).length = i := by simp; omega
      try dsimp only at hc
      conv => whnf
      refine bstep (w_outE 0 (cs true (mkL List.length mB a (l.take i))) l[i] (cs true (l.drop (i + 1))) 1 (h1 := mid hA hi2)) ?_
      repeat refine k0 ?_
      repeat' ((conv => whnf); (first | refine Exists.intro _ (And.intro (cutA (by simp; omega)) ?_) | refine jA fun _ => ?_ | refine jB fun _ => ?_ | refine kC (fun _ => ?_) fun _ => ?_ | refine jS ?_ | refine jI ?_ | (apply cx120; refine kl tx120 ?_) | refine jD ?_ | refine ⟨snc, _, snr, ?_⟩ | refine ⟨⟨Nat.le_refl _, rfl⟩, [], rfl, ?_⟩ | refine And.intro ⟨rfl, rfl, by decide, rfl⟩ ?_ | refine jP ?_ | refine jO ?_ | refine jX ?_ | refine jb jr ?_ | refine jb ofs ?_ | refine ko jc ?_ | refine ko jp ?_ | refine jM ?_ | refine kr ?_ | refine ko rfl ?_ | refine And.intro (cs_shal _) ?_ | refine And.intro (rfl : List.all _ _ = true) ?_ | refine And.intro ⟨rfl, (rfl : List.all _ _ = true)⟩ ?_ | exact ⟨rfl, rfl⟩ | exact jV | fail))
      conv => whnf
      refine bstep (w_inE 0 2 (cs true (mkL List.length mB a (l.take i))) (mB (a + cnt List.length (l.take i)) l[i]) (cs true (l.drop (i + 1))) l[i].length 1 (mkf hi2 rfl)) ?_
      repeat' ((conv => whnf); (first | refine k0 ?_ | refine jA fun _ => ?_ | refine jB fun _ => ?_ | refine kC (fun _ => ?_) fun _ => ?_ | refine jS ?_ | refine jI ?_ | (apply cx120; refine kl tx120 ?_) | refine jD ?_ | refine ⟨snc, _, snr, ?_⟩ | refine ⟨⟨Nat.le_refl _, rfl⟩, [], rfl, ?_⟩ | refine And.intro ⟨rfl, rfl, by decide, rfl⟩ ?_ | refine jP ?_ | refine jO ?_ | refine jX ?_ | refine jb jr ?_ | refine jb ofs ?_ | refine ko jc ?_ | refine ko jp ?_ | refine jM ?_ | refine kr ?_ | refine ko rfl ?_ | refine And.intro (cs_shal _) ?_ | refine And.intro (rfl : List.all _ _ = true) ?_ | refine And.intro ⟨rfl, (rfl : List.all _ _ = true)⟩ ?_ | exact ⟨rfl, rfl⟩ | exact jV | fail))
      refine ⟨⟨i + 1, by omega⟩, by simp only; omega, ?_⟩
      dsimp only
      exact jw []
    · obtain rfl : i = l.length := by omega
      have e : cnt List.length (l.take l.length) = cnt List.length l := by rw [List.take_length]
      repeat' ((conv => whnf); (first | refine k0 ?_ | refine jA fun _ => ?_ | refine jB fun _ => ?_ | refine kC (fun _ => ?_) fun _ => ?_ | refine jS ?_ | refine jI ?_ | (apply cx120; refine kl tx120 ?_) | refine jD ?_ | refine ⟨snc, _, snr, ?_⟩ | refine ⟨⟨Nat.le_refl _, rfl⟩, [], rfl, ?_⟩ | refine And.intro ⟨rfl, rfl, by decide, rfl⟩ ?_ | refine jP ?_ | refine jO ?_ | refine jX ?_ | refine jb jr ?_ | refine jb ofs ?_ | refine ko jc ?_ | refine ko jp ?_ | refine jM ?_ | refine kr ?_ | refine ko rfl ?_ | refine And.intro (cs_shal _) ?_ | refine And.intro (rfl : List.all _ _ = true) ?_ | refine And.intro ⟨rfl, (rfl : List.all _ _ = true)⟩ ?_ | exact ⟨rfl, rfl⟩ | exact jV | fail))
      exact ⟨vIe (by omega), by rw [List.take_length, List.drop_length, List.append_nil]⟩

theorem cx69 {P : Program} {X : FuncId → List Arg → List (Bool × List Cell) → List (Option (List Cell)) → Prop} {a : List Arg} {Q : List (Bool × List Cell) → List (Option (List Cell)) → Prop} (h : ∃ b vals outs, a = b ∧ D P X (.call 69 b vals outs) ∧ Q vals outs) : CallS P X 69 a Q := ⟨h⟩

set_option maxRecDepth 100000 in
theorem tx71 {l : List Fau} {a : Nat} (hl : l.length ≤ 10000000 := by first | assumption | omega | (simp; done) | (simp; omega)) (ha : a + 3 * l.length ≤ 1000000000000000000 := by first | assumption | omega | (simp; done) | (simp; omega)) : T 71 [aO l, aI (a : Nat)] [vI (a + 3 * l.length : Nat)] [some (cs true (mkL (fun _ => 3) mF a l)), none] := by
  refine w_call md [] Tryz.func71 rfl ?_
  repeat' ((conv => whnf); (first | refine k0 ?_ | refine jA fun _ => ?_ | refine jB fun _ => ?_ | refine kC (fun _ => ?_) fun _ => ?_ | refine jS ?_ | refine jI ?_ | refine jD ?_ | refine ⟨snc, _, snr, ?_⟩ | refine ⟨⟨Nat.le_refl _, rfl⟩, [], rfl, ?_⟩ | refine And.intro ⟨rfl, rfl, by decide, rfl⟩ ?_ | refine jP ?_ | refine jO ?_ | refine jX ?_ | refine jb jr ?_ | refine jb ofs ?_ | refine ko jc ?_ | refine ko jp ?_ | refine jM ?_ | refine kr ?_ | refine ko rfl ?_ | refine And.intro (cs_shal _) ?_ | refine And.intro (rfl : List.all _ _ = true) ?_ | refine And.intro ⟨rfl, (rfl : List.all _ _ = true)⟩ ?_ | exact ⟨rfl, rfl⟩ | exact jV | fail))
  conv => whnf
  refine loopk (ι := Nat) (fun i => i ≤ l.length) (fun i => l.length - i) (0) [0] (fun i => [(1, .v false [i6 (a + cnt (fun _ => 3) (l.take i) : Nat)]), (5, .v false [i6 i])]) [some fun i => some (true, cs true (mkL (fun _ => 3) mF a (l.take i) ++ l.drop i)), none] ?_
  refine ⟨by omega, ?_, fun i hi => ?_⟩
  · exact jw []
  · have hle := cnt_le (c := (fun _ => 3)) (xs := l) (i := i)
    have htot : cnt (fun _ => 3) l = 3 * l.length := by first | rfl | exact cnt_const _ _
    refine ⟨fun hlt => ?_, fun hge => ?_⟩
    · have hi2 : i < l.length := by omega
      have hc := cnt_take (c := (fun _ => 3)) hi2
      have hle2 := cnt_le (c := (fun _ => 3)) (xs := l) (i := i + 1)
      have hA : (mkL (fun _ => 3) mF a (l.take i)).length = i := by simp; omega
      try dsimp only at hc
      have e := mkf (c := (fun _ => 3)) (f := mF) (a := a) (M := cs true [mF (a + cnt (fun _ => 3) (l.take i)) l[i]]) hi2 rfl
      have w1 : ∀ x : Nat, i6 ((x : Int) + 1) = i6 ((x + 1 : Nat) : Int) := fun _ => rfl
      repeat refine k0 ?_
      repeat' ((conv => whnf); (first | refine Exists.intro _ (And.intro (midp hi2 hA rfl) ?_) | refine Exists.intro _ (And.intro (midq (r := cs true [mF (a + cnt (fun _ => 3) (l.take i)) l[i]]) hA rfl) ?_) | refine Exists.intro _ (And.intro (midq hA rfl) ?_) | refine k0 ?_ | refine jA fun _ => ?_ | refine jB fun _ => ?_ | refine kC (fun _ => ?_) fun _ => ?_ | refine jS ?_ | refine jI ?_ | refine jD ?_ | refine ⟨snc, _, snr, ?_⟩ | refine ⟨⟨Nat.le_refl _, rfl⟩, [], rfl, ?_⟩ | refine And.intro ⟨rfl, rfl, by decide, rfl⟩ ?_ | refine jP ?_ | refine jO ?_ | refine jX ?_ | refine jb jr ?_ | refine jb ofs ?_ | refine ko jc ?_ | refine ko jp ?_ | refine jM ?_ | refine kr ?_ | refine ko rfl ?_ | refine And.intro (cs_shal _) ?_ | refine And.intro (rfl : List.all _ _ = true) ?_ | refine And.intro ⟨rfl, (rfl : List.all _ _ = true)⟩ ?_ | exact ⟨rfl, rfl⟩ | exact jV | fail))
      refine ⟨⟨i + 1, by omega⟩, by simp only; omega, ?_⟩
      dsimp only
      exact w_autoX [] (by (conv => whnf); exact And.intro (by kernel_rfl) (And.intro (by kernel_rfl) (by repeat' (first | (with_reducible exact rfl) | ((conv => whnf); first | exact trivial | exact ⟨rfl, cs_clo _, e⟩ | exact rfl | exact tvi (by first | omega | (dsimp only; omega) | (simp; done)) | exact tvr (by first | omega | (dsimp only; omega) | (simp; done) | (simp; omega)) | exact ⟨rfl, clo_i, by first | rfl | rw [List.take_length] | assumption⟩ | refine And.intro ?_ ?_)))))
    · obtain rfl : i = l.length := by omega
      have e : cnt (fun _ => 3) (l.take l.length) = cnt (fun _ => 3) l := by rw [List.take_length]
      repeat' ((conv => whnf); (first | refine k0 ?_ | refine jA fun _ => ?_ | refine jB fun _ => ?_ | refine kC (fun _ => ?_) fun _ => ?_ | refine jS ?_ | refine jI ?_ | refine jD ?_ | refine ⟨snc, _, snr, ?_⟩ | refine ⟨⟨Nat.le_refl _, rfl⟩, [], rfl, ?_⟩ | refine And.intro ⟨rfl, rfl, by decide, rfl⟩ ?_ | refine jP ?_ | refine jO ?_ | refine jX ?_ | refine jb jr ?_ | refine jb ofs ?_ | refine ko jc ?_ | refine ko jp ?_ | refine jM ?_ | refine kr ?_ | refine ko rfl ?_ | refine And.intro (cs_shal _) ?_ | refine And.intro (rfl : List.all _ _ = true) ?_ | refine And.intro ⟨rfl, (rfl : List.all _ _ = true)⟩ ?_ | exact ⟨rfl, rfl⟩ | exact jV | fail))
      exact ⟨vIe (by omega), by rw [List.take_length, List.drop_length, List.append_nil]⟩

theorem cx71 {P : Program} {X : FuncId → List Arg → List (Bool × List Cell) → List (Option (List Cell)) → Prop} {a : List Arg} {Q : List (Bool × List Cell) → List (Option (List Cell)) → Prop} (h : ∃ b vals outs, a = b ∧ D P X (.call 71 b vals outs) ∧ Q vals outs) : CallS P X 71 a Q := ⟨h⟩

set_option maxRecDepth 100000 in
theorem tx70 {l : List Wri} {a : Nat} (hl : l.length ≤ 10000000 := by first | assumption | omega | (simp; done) | (simp; omega)) (ha : a + cnt cW l ≤ 1000000000000000000 := by first | assumption | omega | (simp; done) | (simp; omega)) : T 70 [aO l, aI (a : Nat)] [vI (a + cnt cW l : Nat)] [some (cs true (mkL cW mW a l)), none] := by
  refine w_call md [] Tryz.func70 rfl ?_
  repeat' ((conv => whnf); (first | refine k0 ?_ | refine jA fun _ => ?_ | refine jB fun _ => ?_ | refine kC (fun _ => ?_) fun _ => ?_ | refine jS ?_ | refine jI ?_ | (apply cx120; refine kl tx120 ?_) | refine jD ?_ | refine ⟨snc, _, snr, ?_⟩ | refine ⟨⟨Nat.le_refl _, rfl⟩, [], rfl, ?_⟩ | refine And.intro ⟨rfl, rfl, by decide, rfl⟩ ?_ | refine jP ?_ | refine jO ?_ | refine jX ?_ | refine jb jr ?_ | refine jb ofs ?_ | refine ko jc ?_ | refine ko jp ?_ | refine jM ?_ | refine kr ?_ | refine ko rfl ?_ | refine And.intro (cs_shal _) ?_ | refine And.intro (rfl : List.all _ _ = true) ?_ | refine And.intro ⟨rfl, (rfl : List.all _ _ = true)⟩ ?_ | exact ⟨rfl, rfl⟩ | exact jV | fail))
  conv => whnf
  refine loopk (ι := Nat) (fun i => i ≤ l.length) (fun i => l.length - i) (0) [0] (fun i => [(1, .v false [i6 (a + cnt cW (l.take i) : Nat)]), (5, .v false [i6 i])]) [some fun i => some (true, cs true (mkL cW mW a (l.take i) ++ l.drop i)), none] ?_
  refine ⟨by omega, ?_, fun i hi => ?_⟩
  · exact jw []
  · have hle := cnt_le (c := cW) (xs := l) (i := i)
    have htot : cnt cW l = cnt cW l := by first | rfl | exact cnt_const _ _
    refine ⟨fun hlt => ?_, fun hge => ?_⟩
    · have hi2 : i < l.length := by omega
      have hc := cnt_take (c := cW) hi2
      have hle2 := cnt_le (c := cW) (xs := l) (i := i + 1)
      have hA : (mkL cW mW a (l.take i)).length = i := by simp; omega
      try dsimp only at hc
      have hcw : cW l[i] = 1 + l[i].b.length := rfl
      repeat refine k0 ?_
      repeat' ((conv => whnf); (first | refine Exists.intro _ (And.intro (midp hi2 hA rfl) ?_) | refine jA fun _ => ?_ | refine jB fun _ => ?_ | refine kC (fun _ => ?_) fun _ => ?_ | refine jS ?_ | refine jI ?_ | (apply cx120; refine kl tx120 ?_) | refine jD ?_ | refine ⟨snc, _, snr, ?_⟩ | refine ⟨⟨Nat.le_refl _, rfl⟩, [], rfl, ?_⟩ | refine And.intro ⟨rfl, rfl, by decide, rfl⟩ ?_ | refine jP ?_ | refine jO ?_ | refine jX ?_ | refine jb jr ?_ | refine jb ofs ?_ | refine ko jc ?_ | refine ko jp ?_ | refine jM ?_ | refine kr ?_ | refine ko rfl ?_ | refine And.intro (cs_shal _) ?_ | refine And.intro (rfl : List.all _ _ = true) ?_ | refine And.intro ⟨rfl, (rfl : List.all _ _ = true)⟩ ?_ | exact ⟨rfl, rfl⟩ | exact jV | fail))
      repeat refine k0 ?_
      repeat' ((conv => whnf); (first | refine jA fun _ => ?_ | refine jB fun _ => ?_ | refine kC (fun _ => ?_) fun _ => ?_ | refine jS ?_ | refine jI ?_ | (apply cx120; refine kl tx120 ?_) | refine jD ?_ | refine ⟨snc, _, snr, ?_⟩ | refine ⟨⟨Nat.le_refl _, rfl⟩, [], rfl, ?_⟩ | refine And.intro ⟨rfl, rfl, by decide, rfl⟩ ?_ | refine jP ?_ | refine jO ?_ | refine jX ?_ | refine jb jr ?_ | refine jb ofs ?_ | refine ko jc ?_ | refine ko jp ?_ | refine jM ?_ | refine kr ?_ | refine ko rfl ?_ | refine And.intro (cs_shal _) ?_ | refine And.intro (rfl : List.all _ _ = true) ?_ | refine And.intro ⟨rfl, (rfl : List.all _ _ = true)⟩ ?_ | exact ⟨rfl, rfl⟩ | exact jV | fail))
      conv => whnf
      refine bstep (w_outE 0 (cs true (mkL cW mW a (l.take i)) ++ [i6 (a + cnt cW (l.take i) : Nat)]) l[i].b (cs true (l.drop (i + 1))) 1) ?_
      repeat refine k0 ?_
      repeat' ((conv => whnf); (first | refine Exists.intro _ (And.intro (cutA (by simp; omega)) ?_) | refine jA fun _ => ?_ | refine jB fun _ => ?_ | refine kC (fun _ => ?_) fun _ => ?_ | refine jS ?_ | refine jI ?_ | (apply cx120; refine kl tx120 ?_) | refine jD ?_ | refine ⟨snc, _, snr, ?_⟩ | refine ⟨⟨Nat.le_refl _, rfl⟩, [], rfl, ?_⟩ | refine And.intro ⟨rfl, rfl, by decide, rfl⟩ ?_ | refine jP ?_ | refine jO ?_ | refine jX ?_ | refine jb jr ?_ | refine jb ofs ?_ | refine ko jc ?_ | refine ko jp ?_ | refine jM ?_ | refine kr ?_ | refine ko rfl ?_ | refine And.intro (cs_shal _) ?_ | refine And.intro (rfl : List.all _ _ = true) ?_ | refine And.intro ⟨rfl, (rfl : List.all _ _ = true)⟩ ?_ | exact ⟨rfl, rfl⟩ | exact jV | fail))
      conv => whnf
      refine bstep (w_inE 0 2 (cs true (mkL cW mW a (l.take i)) ++ [i6 (a + cnt cW (l.take i) : Nat)]) (mB (a + cnt cW (l.take i) + 1) l[i].b) (cs true (l.drop (i + 1))) l[i].b.length 1 (mkf2 hi2 rfl)) ?_
      repeat' ((conv => whnf); (first | refine k0 ?_ | refine jA fun _ => ?_ | refine jB fun _ => ?_ | refine kC (fun _ => ?_) fun _ => ?_ | refine jS ?_ | refine jI ?_ | (apply cx120; refine kl tx120 ?_) | refine jD ?_ | refine ⟨snc, _, snr, ?_⟩ | refine ⟨⟨Nat.le_refl _, rfl⟩, [], rfl, ?_⟩ | refine And.intro ⟨rfl, rfl, by decide, rfl⟩ ?_ | refine jP ?_ | refine jO ?_ | refine jX ?_ | refine jb jr ?_ | refine jb ofs ?_ | refine ko jc ?_ | refine ko jp ?_ | refine jM ?_ | refine kr ?_ | refine ko rfl ?_ | refine And.intro (cs_shal _) ?_ | refine And.intro (rfl : List.all _ _ = true) ?_ | refine And.intro ⟨rfl, (rfl : List.all _ _ = true)⟩ ?_ | exact ⟨rfl, rfl⟩ | exact jV | fail))
      refine ⟨⟨i + 1, by omega⟩, by simp only; omega, ?_⟩
      dsimp only
      exact jw []
    · obtain rfl : i = l.length := by omega
      have e : cnt cW (l.take l.length) = cnt cW l := by rw [List.take_length]
      repeat' ((conv => whnf); (first | refine k0 ?_ | refine jA fun _ => ?_ | refine jB fun _ => ?_ | refine kC (fun _ => ?_) fun _ => ?_ | refine jS ?_ | refine jI ?_ | (apply cx120; refine kl tx120 ?_) | refine jD ?_ | refine ⟨snc, _, snr, ?_⟩ | refine ⟨⟨Nat.le_refl _, rfl⟩, [], rfl, ?_⟩ | refine And.intro ⟨rfl, rfl, by decide, rfl⟩ ?_ | refine jP ?_ | refine jO ?_ | refine jX ?_ | refine jb jr ?_ | refine jb ofs ?_ | refine ko jc ?_ | refine ko jp ?_ | refine jM ?_ | refine kr ?_ | refine ko rfl ?_ | refine And.intro (cs_shal _) ?_ | refine And.intro (rfl : List.all _ _ = true) ?_ | refine And.intro ⟨rfl, (rfl : List.all _ _ = true)⟩ ?_ | exact ⟨rfl, rfl⟩ | exact jV | fail))
      exact ⟨vIe (by omega), by rw [List.take_length, List.drop_length, List.append_nil]⟩

theorem cx70 {P : Program} {X : FuncId → List Arg → List (Bool × List Cell) → List (Option (List Cell)) → Prop} {a : List Arg} {Q : List (Bool × List Cell) → List (Option (List Cell)) → Prop} (h : ∃ b vals outs, a = b ∧ D P X (.call 70 b vals outs) ∧ Q vals outs) : CallS P X 70 a Q := ⟨h⟩

set_option maxRecDepth 100000 in
theorem tx38 {l : List Fre} {a : Nat} (hl : l.length ≤ 10000000 := by first | assumption | omega | (simp; done) | (simp; omega)) (ha : a + cnt cFr l ≤ 1000000000000000000 := by first | assumption | omega | (simp; done) | (simp; omega)) : T 38 [aO l, aI (a : Nat)] [vI (a + cnt cFr l : Nat)] [some (cs true (mkL cFr mFr a l)), none] := by
  refine w_call md [] Tryz.func38 rfl ?_
  repeat' ((conv => whnf); (first | refine k0 ?_ | refine jA fun _ => ?_ | refine jB fun _ => ?_ | refine kC (fun _ => ?_) fun _ => ?_ | refine jS ?_ | refine jI ?_ | (apply cx86; refine kl tx86 ?_) | (apply cx19; refine kl tx19 ?_) | refine jD ?_ | refine ⟨snc, _, snr, ?_⟩ | refine ⟨⟨Nat.le_refl _, rfl⟩, [], rfl, ?_⟩ | refine And.intro ⟨rfl, rfl, by decide, rfl⟩ ?_ | refine jP ?_ | refine jO ?_ | refine jX ?_ | refine jb jr ?_ | refine jb ofs ?_ | refine ko jc ?_ | refine ko jp ?_ | refine jM ?_ | refine kr ?_ | refine ko rfl ?_ | refine And.intro (cs_shal _) ?_ | refine And.intro (rfl : List.all _ _ = true) ?_ | refine And.intro ⟨rfl, (rfl : List.all _ _ = true)⟩ ?_ | exact ⟨rfl, rfl⟩ | exact jV | fail))
  conv => whnf
  refine loopk (ι := Nat) (fun i => i ≤ l.length) (fun i => l.length - i) (0) [0] (fun i => [(1, .v false [i6 (a + cnt cFr (l.take i) : Nat)]), (5, .v false [i6 i])]) [some fun i => some (true, cs true (mkL cFr mFr a (l.take i) ++ l.drop i)), none] ?_
  refine ⟨by omega, ?_, fun i hi => ?_⟩
  · exact jw []
  · have hle := cnt_le (c := cFr) (xs := l) (i := i)
    have htot : cnt cFr l = cnt cFr l := by first | rfl | exact cnt_const _ _
    refine ⟨fun hlt => ?_, fun hge => ?_⟩
    · have hi2 : i < l.length := by omega
      have hc := cnt_take (c := cFr) hi2
      have hle2 := cnt_le (c := cFr) (xs := l) (i := i + 1)
      have hA : (mkL cFr mFr a (l.take i)).length = i := by simp; omega
      try dsimp only at hc
      have hcw : cFr l[i] = 2 + l[i].x.keys.length + l[i].x.vals.length + l[i].x.kids.length := rfl
      have hP : (cs true (mkL cFr mFr a (l.take i))).length = i * 5 := by rw [cs_len, hA]; rfl
      have h0 : cs true (mkL cFr mFr a (l.take i) ++ l.drop i) = cs true (mkL cFr mFr a (l.take i)) ++ [i6 l[i].n, b1 l[i].x.leaf, slE true l[i].x.keys, slE true l[i].x.vals, slE true l[i].x.kids] ++ cs true (l.drop (i + 1)) := (mid hA hi2).trans rfl
      have heq : ∀ b : Bool, b = decide ((a + cnt cFr (l.take i) + 1) % 3 = 0) → b1 b = b1 (decide ((a + cnt cFr (l.take i) + 1) % 3 = 0)) := fun b h => by rw [h]
      conv => whnf
      refine bstep (w_outE 0 (cs true (mkL cFr mFr a (l.take i)) ++ [i6 l[i].n, b1 l[i].x.leaf]) l[i].x.keys ([slE true l[i].x.vals, slE true l[i].x.kids] ++ cs true (l.drop (i + 1))) 1 (h1 := h0.trans (by simp))) ?_
      refine bstep (w_outE 0 (cs true (mkL cFr mFr a (l.take i)) ++ [i6 l[i].n, b1 l[i].x.leaf, .ref 2 0 l[i].x.keys.length 1]) l[i].x.vals ([slE true l[i].x.kids] ++ cs true (l.drop (i + 1))) 1) ?_
      refine bstep (w_outE 0 (cs true (mkL cFr mFr a (l.take i)) ++ [i6 l[i].n, b1 l[i].x.leaf, .ref 2 0 l[i].x.keys.length 1, .ref 3 0 l[i].x.vals.length 1]) l[i].x.kids (cs true (l.drop (i + 1))) 1 (cs1 := cs true (mkL cFr mFr a (l.take i)) ++ [i6 l[i].n, b1 l[i].x.leaf, .ref 2 0 l[i].x.keys.length 1, .ref 3 0 l[i].x.vals.length 1, .ref 4 0 l[i].x.kids.length 1] ++ cs true (l.drop (i + 1))) (h2 := by simp)) ?_
      repeat' ((conv => whnf); (first | refine And.intro (by decide) (Exists.intro (((a + cnt cFr (l.take i) + 1) % 3 : Nat) : Int) (And.intro (by rw [Int.tmod_eq_emod_of_nonneg (by omega)]; rfl) ?_)) | refine Exists.intro _ (And.intro (putM 0 (by omega) rfl) ?_) | refine Exists.intro _ (And.intro (putM 1 (by omega) rfl) ?_) | refine Exists.intro _ (And.intro (cutM 2 (by omega) rfl) ?_) | refine Exists.intro _ (And.intro (cutM 3 (by omega) rfl) ?_) | refine Exists.intro _ (And.intro (cutM 4 (by omega) rfl) ?_) | refine k0 ?_ | refine jA fun _ => ?_ | refine jB fun _ => ?_ | refine kC (fun _ => ?_) fun _ => ?_ | refine jS ?_ | refine jI ?_ | (apply cx86; refine kl tx86 ?_) | (apply cx19; refine kl tx19 ?_) | refine jD ?_ | refine ⟨snc, _, snr, ?_⟩ | refine ⟨⟨Nat.le_refl _, rfl⟩, [], rfl, ?_⟩ | refine And.intro ⟨rfl, rfl, by decide, rfl⟩ ?_ | refine jP ?_ | refine jO ?_ | refine jX ?_ | refine jb jr ?_ | refine jb ofs ?_ | refine ko jc ?_ | refine ko jp ?_ | refine jM ?_ | refine kr ?_ | refine ko rfl ?_ | refine And.intro (cs_shal _) ?_ | refine And.intro (rfl : List.all _ _ = true) ?_ | refine And.intro ⟨rfl, (rfl : List.all _ _ = true)⟩ ?_ | exact ⟨rfl, rfl⟩ | exact jV | fail))
      · refine ⟨⟨i + 1, by omega⟩, by simp only; omega, ?_⟩
        refine WGh.trans (w_inE 0 2 (cs true (mkL cFr mFr a (l.take i)) ++ [i6 ((a + cnt cFr (l.take i) : Nat) : Int), b1 true]) (mS (a + cnt cFr (l.take i) + 2) l[i].x.keys) ([.ref 3 0 l[i].x.vals.length 1, .ref 4 0 l[i].x.kids.length 1] ++ cs true (l.drop (i + 1))) l[i].x.keys.length 1 rfl) ?_
        refine WGh.trans (w_inE 0 3 (cs true (mkL cFr mFr a (l.take i)) ++ [i6 ((a + cnt cFr (l.take i) : Nat) : Int), b1 true, slE true (mS (a + cnt cFr (l.take i) + 2) l[i].x.keys)]) (mS (a + cnt cFr (l.take i) + 2 + l[i].x.keys.length) l[i].x.vals) ([.ref 4 0 l[i].x.kids.length 1] ++ cs true (l.drop (i + 1))) l[i].x.vals.length 1 rfl) ?_
        refine WGh.trans (w_inE 0 4 (cs true (mkL cFr mFr a (l.take i)) ++ [i6 ((a + cnt cFr (l.take i) : Nat) : Int), b1 true, slE true (mS (a + cnt cFr (l.take i) + 2) l[i].x.keys), slE true (mS (a + cnt cFr (l.take i) + 2 + l[i].x.keys.length) l[i].x.vals)]) (mI (a + cnt cFr (l.take i) + 2 + l[i].x.keys.length + l[i].x.vals.length) l[i].x.kids) (cs true (l.drop (i + 1))) l[i].x.kids.length 1 (mkf2 hi2 (by rw [heq true (by simp; omega)]; first | done | rfl))) ?_
        dsimp only
        exact jw []
      · refine ⟨⟨i + 1, by omega⟩, by simp only; omega, ?_⟩
        refine WGh.trans (w_inE 0 2 (cs true (mkL cFr mFr a (l.take i)) ++ [i6 ((a + cnt cFr (l.take i) : Nat) : Int), b1 false]) (mS (a + cnt cFr (l.take i) + 2) l[i].x.keys) ([.ref 3 0 l[i].x.vals.length 1, .ref 4 0 l[i].x.kids.length 1] ++ cs true (l.drop (i + 1))) l[i].x.keys.length 1 rfl) ?_
        refine WGh.trans (w_inE 0 3 (cs true (mkL cFr mFr a (l.take i)) ++ [i6 ((a + cnt cFr (l.take i) : Nat) : Int), b1 false, slE true (mS (a + cnt cFr (l.take i) + 2) l[i].x.keys)]) (mS (a + cnt cFr (l.take i) + 2 + l[i].x.keys.length) l[i].x.vals) ([.ref 4 0 l[i].x.kids.length 1] ++ cs true (l.drop (i + 1))) l[i].x.vals.length 1 rfl) ?_
        refine WGh.trans (w_inE 0 4 (cs true (mkL cFr mFr a (l.take i)) ++ [i6 ((a + cnt cFr (l.take i) : Nat) : Int), b1 false, slE true (mS (a + cnt cFr (l.take i) + 2) l[i].x.keys), slE true (mS (a + cnt cFr (l.take i) + 2 + l[i].x.keys.length) l[i].x.vals)]) (mI (a + cnt cFr (l.take i) + 2 + l[i].x.keys.length + l[i].x.vals.length) l[i].x.kids) (cs true (l.drop (i + 1))) l[i].x.kids.length 1 (mkf2 hi2 (by rw [heq false (by simp; omega)]; first | done | rfl))) ?_
        dsimp only
        exact jw []
    · obtain rfl : i = l.length := by omega
      have e : cnt cFr (l.take l.length) = cnt cFr l := by rw [List.take_length]
      repeat' ((conv => whnf); (first | refine k0 ?_ | refine jA fun _ => ?_ | refine jB fun _ => ?_ | refine kC (fun _ => ?_) fun _ => ?_ | refine jS ?_ | refine jI ?_ | (apply cx86; refine kl tx86 ?_) | (apply cx19; refine kl tx19 ?_) | refine jD ?_ | refine ⟨snc, _, snr, ?_⟩ | refine ⟨⟨Nat.le_refl _, rfl⟩, [], rfl, ?_⟩ | refine And.intro ⟨rfl, rfl, by decide, rfl⟩ ?_ | refine jP ?_ | refine jO ?_ | refine jX ?_ | refine jb jr ?_ | refine jb ofs ?_ | refine ko jc ?_ | refine ko jp ?_ | refine jM ?_ | refine kr ?_ | refine ko rfl ?_ | refine And.intro (cs_shal _) ?_ | refine And.intro (rfl : List.all _ _ = true) ?_ | refine And.intro ⟨rfl, (rfl : List.all _ _ = true)⟩ ?_ | exact ⟨rfl, rfl⟩ | exact jV | fail))
      exact ⟨vIe (by omega), by rw [List.take_length, List.drop_length, List.append_nil]⟩

theorem cx38 {P : Program} {X : FuncId → List Arg → List (Bool × List Cell) → List (Option (List Cell)) → Prop} {a : List Arg} {Q : List (Bool × List Cell) → List (Option (List Cell)) → Prop} (h : ∃ b vals outs, a = b ∧ D P X (.call 38 b vals outs) ∧ Q vals outs) : CallS P X 38 a Q := ⟨h⟩

set_option maxRecDepth 100000 in
theorem tx14 {l : List Pai} {a : Nat} (hl : l.length ≤ 10000000000000 := by first | assumption | omega | (simp; done) | (simp; omega)) (ha : a + 2 * l.length ≤ 1000000000000000000 := by first | assumption | omega | (simp; done) | (simp; omega)) : T 14 [aO l, aI (a : Nat)] [vI (a + 2 * l.length : Nat)] [some (cs true (mkL (fun _ => 2) mP a l)), none] := by
  refine w_call md [] Tryz.func14 rfl ?_
  repeat' ((conv => whnf); (first | refine k0 ?_ | refine jA fun _ => ?_ | refine jB fun _ => ?_ | refine kC (fun _ => ?_) fun _ => ?_ | refine jS ?_ | refine jI ?_ | (apply cx39; refine kl tx39 ?_) | refine jD ?_ | refine ⟨snc, _, snr, ?_⟩ | refine ⟨⟨Nat.le_refl _, rfl⟩, [], rfl, ?_⟩ | refine And.intro ⟨rfl, rfl, by decide, rfl⟩ ?_ | refine jP ?_ | refine jO ?_ | refine jX ?_ | refine jb jr ?_ | refine jb ofs ?_ | refine ko jc ?_ | refine ko jp ?_ | refine jM ?_ | refine kr ?_ | refine ko rfl ?_ | refine And.intro (cs_shal _) ?_ | refine And.intro (rfl : List.all _ _ = true) ?_ | refine And.intro ⟨rfl, (rfl : List.all _ _ = true)⟩ ?_ | exact ⟨rfl, rfl⟩ | exact jV | fail))
  conv => whnf
  refine loopk (ι := Nat) (fun i => i ≤ l.length) (fun i => l.length - i) (0) [0] (fun i => [(1, .v false [i6 (a + cnt (fun _ => 2) (l.take i) : Nat)]), (5, .v false [i6 i])]) [some fun i => some (true, cs true (mkL (fun _ => 2) mP a (l.take i) ++ l.drop i)), none] ?_
  refine ⟨by omega, ?_, fun i hi => ?_⟩
  · exact jw []
  · have hle := cnt_le (c := (fun _ => 2)) (xs := l) (i := i)
    have htot : cnt (fun _ => 2) l = 2 * l.length := by first | rfl | exact cnt_const _ _
    refine ⟨fun hlt => ?_, fun hge => ?_⟩
    · have hi2 : i < l.length := by omega
      have hc := cnt_take (c := (fun _ => 2)) hi2
      have hle2 := cnt_le (c := (fun _ => 2)) (xs := l) (i := i + 1)
      have hA : (mkL (fun _ => 2) mP a (l.take i)).length = i := by simp; omega
      try dsimp only at hc
      have e := mkf (c := (fun _ => 2)) (f := mP) (a := a) (M := cs true [mP (a + cnt (fun _ => 2) (l.take i)) l[i]]) hi2 rfl
      repeat refine k0 ?_
      repeat' ((conv => whnf); (first | refine Exists.intro _ (And.intro (midp hi2 hA rfl) ?_) | refine Exists.intro _ (And.intro (midq (r := cs true [mP (a + cnt (fun _ => 2) (l.take i)) l[i]]) hA rfl) ?_) | refine Exists.intro _ (And.intro (midq hA rfl) ?_) | refine k0 ?_ | refine jA fun _ => ?_ | refine jB fun _ => ?_ | refine kC (fun _ => ?_) fun _ => ?_ | refine jS ?_ | refine jI ?_ | (apply cx39; refine kl tx39 ?_) | refine jD ?_ | refine ⟨snc, _, snr, ?_⟩ | refine ⟨⟨Nat.le_refl _, rfl⟩, [], rfl, ?_⟩ | refine And.intro ⟨rfl, rfl, by decide, rfl⟩ ?_ | refine jP ?_ | refine jO ?_ | refine jX ?_ | refine jb jr ?_ | refine jb ofs ?_ | refine ko jc ?_ | refine ko jp ?_ | refine jM ?_ | refine kr ?_ | refine ko rfl ?_ | refine And.intro (cs_shal _) ?_ | refine And.intro (rfl : List.all _ _ = true) ?_ | refine And.intro ⟨rfl, (rfl : List.all _ _ = true)⟩ ?_ | exact ⟨rfl, rfl⟩ | exact jV | fail))
      refine ⟨⟨i + 1, by omega⟩, by simp only; omega, ?_⟩
      dsimp only
      exact w_autoX [] (by (conv => whnf); exact And.intro (by kernel_rfl) (And.intro (by kernel_rfl) (by repeat' (first | (with_reducible exact rfl) | ((conv => whnf); first | exact trivial | exact ⟨rfl, cs_clo _, e⟩ | exact rfl | exact tvi (by first | omega | (dsimp only; omega) | (simp; done)) | exact tvr (by first | omega | (dsimp only; omega) | (simp; done) | (simp; omega)) | exact ⟨rfl, clo_i, by first | rfl | rw [List.take_length] | assumption⟩ | refine And.intro ?_ ?_)))))
    · obtain rfl : i = l.length := by omega
      have e : cnt (fun _ => 2) (l.take l.length) = cnt (fun _ => 2) l := by rw [List.take_length]
      repeat' ((conv => whnf); (first | refine k0 ?_ | refine jA fun _ => ?_ | refine jB fun _ => ?_ | refine kC (fun _ => ?_) fun _ => ?_ | refine jS ?_ | refine jI ?_ | (apply cx39; refine kl tx39 ?_) | refine jD ?_ | refine ⟨snc, _, snr, ?_⟩ | refine ⟨⟨Nat.le_refl _, rfl⟩, [], rfl, ?_⟩ | refine And.intro ⟨rfl, rfl, by decide, rfl⟩ ?_ | refine jP ?_ | refine jO ?_ | refine jX ?_ | refine jb jr ?_ | refine jb ofs ?_ | refine ko jc ?_ | refine ko jp ?_ | refine jM ?_ | refine kr ?_ | refine ko rfl ?_ | refine And.intro (cs_shal _) ?_ | refine And.intro (rfl : List.all _ _ = true) ?_ | refine And.intro ⟨rfl, (rfl : List.all _ _ = true)⟩ ?_ | exact ⟨rfl, rfl⟩ | exact jV | fail))
      exact ⟨vIe (by omega), by rw [List.take_length, List.drop_length, List.append_nil]⟩

theorem cx14 {P : Program} {X : FuncId → List Arg → List (Bool × List Cell) → List (Option (List Cell)) → Prop} {a : List Arg} {Q : List (Bool × List Cell) → List (Option (List Cell)) → Prop} (h : ∃ b vals outs, a = b ∧ D P X (.call 14 b vals outs) ∧ Q vals outs) : CallS P X 14 a Q := ⟨h⟩

end Go.Proofs.YtkggnekdjdnhiaaGreat
