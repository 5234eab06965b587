/- Functions of the program, each with what it gives back. -/
import Derived.Test.YtopnaijeicknoaaGreatDoorKe
import Derived.Test.YtopnaijeicknoaaGreatDoorChecked
import Derived.IntWalk
import Derived.Test.YtopnaijeicknoaaGreatDoorMa
import Derived.Test.YtopnaijeicknoaaGreatDoorLa
import Derived.Test.YtopnaijeicknoaaGreatDoorLb
namespace Go.Proofs.YtopnaijeicknoaaGreatDoor
open Go Go.RowKit Go.IntWalk
open Enc (sz cs)
attribute [local irreducible] IntKind.wrap

set_option maxRecDepth 100000 in
theorem tx57 {l : List Vl} {a : Nat} (ha : a + 3 * l.length ≤ 1000000000000000000 := by first | assumption | omega | (simp; done) | (simp; omega)) : T 57 [aO l, aI (a : Nat)] [vI (a + 3 * l.length : Nat)] [some (cs true (mkL (fun _ => 3) mV a l)), none] := by
  refine w_call md [] Tryz.func57 rfl ?_
  repeat' ((conv => whnf); (first | refine k0 ?_ | refine jA fun _ => ?_ | refine jB fun _ => ?_ | refine kC (fun _ => ?_) fun _ => ?_ | (apply cx52; refine kl tx52 ?_) | refine jst ?_ | exact ⟨rfl, rfl⟩ | exact jV | fail))
  conv => whnf
  refine loopk (ι := Nat) (fun i => i ≤ l.length) (fun i => l.length - i) (0) [0] (fun i => [(1, .v false [i6 (a + cnt (fun _ => 3) (l.take i) : Nat)]), (5, .v false [i6 i])]) [some fun i => some (true, cs true (mkL (fun _ => 3) mV a (l.take i) ++ l.drop i)), none] ?_
  refine ⟨by omega, ?_, fun i hi => ?_⟩
  · exact jw []
  · have hle := cnt_le (c := (fun _ => 3)) (xs := l) (i := i)
    have htot : cnt (fun _ => 3) l = 3 * l.length := by first | rfl | exact cnt_const _ _
    refine ⟨fun hlt => ?_, fun hge => ?_⟩
    · have hi2 : i < l.length := by omega
      have hc := cnt_take (c := (fun _ => 3)) hi2
      have hle2 := cnt_le (c := (fun _ => 3)) (xs := l) (i := i + 1)
      have hA : (mkL (fun _ => 3) mV a (l.take i)).length = i := by simp; omega
      try dsimp only at hc
      have e := mkf (c := (fun _ => 3)) (f := mV) (a := a) (M := cs true [mV (a + cnt (fun _ => 3) (l.take i)) l[i]]) hi2 rfl
      repeat refine k0 ?_
      repeat' ((conv => whnf); (first | refine Exists.intro _ (And.intro (midp hi2 hA rfl) ?_) | refine Exists.intro _ (And.intro (midq (r := cs true [mV (a + cnt (fun _ => 3) (l.take i)) l[i]]) hA rfl) ?_) | refine Exists.intro _ (And.intro (midq hA rfl) ?_) | refine k0 ?_ | refine jA fun _ => ?_ | refine jB fun _ => ?_ | refine kC (fun _ => ?_) fun _ => ?_ | (apply cx52; refine kl tx52 ?_) | refine jst ?_ | exact ⟨rfl, rfl⟩ | exact jV | fail))
      refine ⟨⟨i + 1, by omega⟩, by simp only; omega, ?_⟩
      dsimp only
      exact w_autoX [] (by (conv => whnf); exact And.intro (by kernel_rfl) (And.intro (by kernel_rfl) (by repeat' (first | (with_reducible exact rfl) | ((conv => whnf); first | exact trivial | exact ⟨rfl, cs_clo _, e⟩ | exact rfl | exact tvi (by first | omega | (dsimp only; omega) | (simp; done)) | exact tvr (by first | omega | (dsimp only; omega) | (simp; done) | (simp; omega)) | exact ⟨rfl, clo_i, by first | rfl | rw [List.take_length] | assumption⟩ | refine And.intro ?_ ?_)))))
    · obtain rfl : i = l.length := by omega
      have e : cnt (fun _ => 3) (l.take l.length) = cnt (fun _ => 3) l := by rw [List.take_length]
      repeat' ((conv => whnf); (first | refine k0 ?_ | refine jA fun _ => ?_ | refine jB fun _ => ?_ | refine kC (fun _ => ?_) fun _ => ?_ | (apply cx52; refine kl tx52 ?_) | refine jst ?_ | exact ⟨rfl, rfl⟩ | exact jV | fail))
      exact ⟨vIe (by omega), by rw [List.take_length, List.drop_length, List.append_nil]⟩

theorem cx57 {P : Program} {X : FuncId → List Arg → List (Bool × List Cell) → List (Option (List Cell)) → Prop} {a : List Arg} {Q : List (Bool × List Cell) → List (Option (List Cell)) → Prop} (h : ∃ b vals outs, a = b ∧ D P X (.call 57 b vals outs) ∧ Q vals outs) : CallS P X 57 a Q := ⟨h⟩

set_option maxRecDepth 100000 in
theorem tx98 {l : List (List Vl)} {a : Nat} (hl : l.length ≤ 10000000 := by first | assumption | omega | (simp; done) | (simp; omega)) (ha : a + cnt cR l ≤ 1000000000000000000 := by first | assumption | omega | (simp; done) | (simp; omega)) : T 98 [aO l, aI (a : Nat)] [vI (a + cnt cR l : Nat)] [some (cs true (mkL cR mR a l)), none] := by
  refine w_call md [] Tryz.func98 rfl ?_
  repeat' ((conv => whnf); (first | refine k0 ?_ | refine jA fun _ => ?_ | refine jB fun _ => ?_ | refine kC (fun _ => ?_) fun _ => ?_ | (apply cx57; refine kl tx57 ?_) | refine jst ?_ | exact ⟨rfl, rfl⟩ | exact jV | fail))
  conv => whnf
  refine loopk (ι := Nat) (fun i => i ≤ l.length) (fun i => l.length - i) (0) [0] (fun i => [(1, .v false [i6 (a + cnt cR (l.take i) : Nat)]), (5, .v false [i6 i])]) [some fun i => some (true, cs true (mkL cR mR a (l.take i) ++ l.drop i)), none] ?_
  refine ⟨by omega, ?_, fun i hi => ?_⟩
  · exact jw []
  · have hle := cnt_le (c := cR) (xs := l) (i := i)
    have htot : cnt cR l = cnt cR l := by first | rfl | exact cnt_const _ _
    refine ⟨fun hlt => ?_, fun hge => ?_⟩
    · have hi2 : i < l.length := by omega
      have hc := cnt_take (c := cR) hi2
      have hle2 := cnt_le (c := cR) (xs := l) (i := i + 1)
      have hA : (mkL cR mR a (l.take i)).length = i := by simp; omega
      try dsimp only at hc
      have hcw : cR l[i] = 3 * l[i].length := rfl
      conv => whnf
      refine bstep (w_outE 0 (cs true (mkL cR mR a (l.take i))) l[i] (cs true (l.drop (i + 1))) 3 (h1 := mid hA hi2)) ?_
      repeat refine k0 ?_
      repeat' ((conv => whnf); (first | refine Exists.intro _ (And.intro (cutA (by simp; omega)) ?_) | refine jA fun _ => ?_ | refine jB fun _ => ?_ | refine kC (fun _ => ?_) fun _ => ?_ | (apply cx57; refine kl tx57 ?_) | refine jst ?_ | exact ⟨rfl, rfl⟩ | exact jV | fail))
      conv => whnf
      refine bstep (w_inE 0 2 (cs true (mkL cR mR a (l.take i))) (mR (a + cnt cR (l.take i)) l[i]) (cs true (l.drop (i + 1))) l[i].length 3 (mkf hi2 rfl)) ?_
      repeat' ((conv => whnf); (first | refine k0 ?_ | refine jA fun _ => ?_ | refine jB fun _ => ?_ | refine kC (fun _ => ?_) fun _ => ?_ | (apply cx57; refine kl tx57 ?_) | refine jst ?_ | exact ⟨rfl, rfl⟩ | exact jV | fail))
      refine ⟨⟨i + 1, by omega⟩, by simp only; omega, ?_⟩
      dsimp only
      exact jw []
    · obtain rfl : i = l.length := by omega
      have e : cnt cR (l.take l.length) = cnt cR l := by rw [List.take_length]
      repeat' ((conv => whnf); (first | refine k0 ?_ | refine jA fun _ => ?_ | refine jB fun _ => ?_ | refine kC (fun _ => ?_) fun _ => ?_ | (apply cx57; refine kl tx57 ?_) | refine jst ?_ | exact ⟨rfl, rfl⟩ | exact jV | fail))
      exact ⟨vIe (by omega), by rw [List.take_length, List.drop_length, List.append_nil]⟩

theorem cx98 {P : Program} {X : FuncId → List Arg → List (Bool × List Cell) → List (Option (List Cell)) → Prop} {a : List Arg} {Q : List (Bool × List Cell) → List (Option (List Cell)) → Prop} (h : ∃ b vals outs, a = b ∧ D P X (.call 98 b vals outs) ∧ Q vals outs) : CallS P X 98 a Q := ⟨h⟩

set_option maxRecDepth 100000 in
theorem tx56 {l : List (List (List Vl))} {a : Nat} (hl : l.length ≤ 10000000 := by first | assumption | omega | (simp; done) | (simp; omega)) (hel : ∀ x ∈ l, x.length ≤ 10000000 := by assumption) (ha : a + cnt cTb l ≤ 1000000000000000000 := by first | assumption | omega | (simp; done) | (simp; omega)) : T 56 [aO l, aI (a : Nat)] [vI (a + cnt cTb l : Nat)] [some (cs true (mkL cTb mTb a l)), none] := by
  refine w_call md [] Tryz.func56 rfl ?_
  repeat' ((conv => whnf); (first | refine k0 ?_ | refine jA fun _ => ?_ | refine jB fun _ => ?_ | refine kC (fun _ => ?_) fun _ => ?_ | (apply cx98; refine kl tx98 ?_) | refine jst ?_ | exact ⟨rfl, rfl⟩ | exact jV | fail))
  conv => whnf
  refine loopk (ι := Nat) (fun i => i ≤ l.length) (fun i => l.length - i) (0) [0] (fun i => [(1, .v false [i6 (a + cnt cTb (l.take i) : Nat)]), (5, .v false [i6 i])]) [some fun i => some (true, cs true (mkL cTb mTb a (l.take i) ++ l.drop i)), none] ?_
  refine ⟨by omega, ?_, fun i hi => ?_⟩
  · exact jw []
  · have hle := cnt_le (c := cTb) (xs := l) (i := i)
    have htot : cnt cTb l = cnt cTb l := by first | rfl | exact cnt_const _ _
    refine ⟨fun hlt => ?_, fun hge => ?_⟩
    · have hi2 : i < l.length := by omega
      have hc := cnt_take (c := cTb) hi2
      have hle2 := cnt_le (c := cTb) (xs := l) (i := i + 1)
      have hA : (mkL cTb mTb a (l.take i)).length = i := by simp; omega
      try dsimp only at hc
      have hcw : cTb l[i] = cnt cR l[i] := rfl
      have hel := hel _ (List.getElem_mem hi2)
      conv => whnf
      refine bstep (w_outE 0 (cs true (mkL cTb mTb a (l.take i))) l[i] (cs true (l.drop (i + 1))) 1 (h1 := mid hA hi2)) ?_
      repeat refine k0 ?_
      repeat' ((conv => whnf); (first | refine Exists.intro _ (And.intro (cutA (by simp; omega)) ?_) | refine jA fun _ => ?_ | refine jB fun _ => ?_ | refine kC (fun _ => ?_) fun _ => ?_ | (apply cx98; refine kl tx98 ?_) | refine jst ?_ | exact ⟨rfl, rfl⟩ | exact jV | fail))
      conv => whnf
      refine bstep (w_inE 0 2 (cs true (mkL cTb mTb a (l.take i))) (mTb (a + cnt cTb (l.take i)) l[i]) (cs true (l.drop (i + 1))) l[i].length 1 (mkf hi2 rfl)) ?_
      repeat' ((conv => whnf); (first | refine k0 ?_ | refine jA fun _ => ?_ | refine jB fun _ => ?_ | refine kC (fun _ => ?_) fun _ => ?_ | (apply cx98; refine kl tx98 ?_) | refine jst ?_ | exact ⟨rfl, rfl⟩ | exact jV | fail))
      refine ⟨⟨i + 1, by omega⟩, by simp only; omega, ?_⟩
      dsimp only
      exact jw []
    · obtain rfl : i = l.length := by omega
      have e : cnt cTb (l.take l.length) = cnt cTb l := by rw [List.take_length]
      repeat' ((conv => whnf); (first | refine k0 ?_ | refine jA fun _ => ?_ | refine jB fun _ => ?_ | refine kC (fun _ => ?_) fun _ => ?_ | (apply cx98; refine kl tx98 ?_) | refine jst ?_ | exact ⟨rfl, rfl⟩ | exact jV | fail))
      exact ⟨vIe (by omega), by rw [List.take_length, List.drop_length, List.append_nil]⟩

theorem cx56 {P : Program} {X : FuncId → List Arg → List (Bool × List Cell) → List (Option (List Cell)) → Prop} {a : List Arg} {Q : List (Bool × List Cell) → List (Option (List Cell)) → Prop} (h : ∃ b vals outs, a = b ∧ D P X (.call 56 b vals outs) ∧ Q vals outs) : CallS P X 56 a Q := ⟨h⟩

set_option maxRecDepth 100000 in
theorem tx20 {m : List (List (List Vl))} {a : Nat} (hl : m.length ≤ 10000000 := by first | assumption | omega | (simp; done) | (simp; omega)) (hm : ∀ x ∈ m, OkTb x := by first | assumption | omega | (simp; done) | (simp; omega)) (ha : a + cnt cTb m ≤ 1000000000000000000 := by first | assumption | omega | (simp; done) | (simp; omega)) : T 20 [.val true [.ref 2 0 m.length 1], aI (a : Nat), .ex (cs true m)] [vI (a + cnt cTb m : Nat)] [none, none, some (cs true (mkL cTb mTb a m))] := by
  refine w_call md [] Tryz.func20 rfl ?_
  have hm2 : ∀ x ∈ m, x.length ≤ 10000000 := fun x hx => (hm x hx).rows
  repeat' ((conv => whnf); (first | refine k0 ?_ | refine jA fun _ => ?_ | refine jB fun _ => ?_ | refine kC (fun _ => ?_) fun _ => ?_ | (apply cx56; refine kl tx56 ?_) | refine jst ?_ | exact ⟨rfl, rfl⟩ | exact jV | fail))

theorem cx20 {P : Program} {X : FuncId → List Arg → List (Bool × List Cell) → List (Option (List Cell)) → Prop} {a : List Arg} {Q : List (Bool × List Cell) → List (Option (List Cell)) → Prop} (h : ∃ b vals outs, a = b ∧ D P X (.call 20 b vals outs) ∧ Q vals outs) : CallS P X 20 a Q := ⟨h⟩

set_option maxRecDepth 100000 in
theorem tx53 {l : List Cl} {a : Nat} (ha : a + 3 * l.length ≤ 1000000000000000000 := by first | assumption | omega | (simp; done) | (simp; omega)) : T 53 [aO l, aI (a : Nat)] [vI (a + 3 * l.length : Nat)] [some (cs true (mkL (fun _ => 3) mCl a l)), none] := by
  refine w_call md [] Tryz.func53 rfl ?_
  repeat' ((conv => whnf); (first | refine k0 ?_ | refine jA fun _ => ?_ | refine jB fun _ => ?_ | refine kC (fun _ => ?_) fun _ => ?_ | (apply cx52; refine kl tx52 ?_) | refine jst ?_ | exact ⟨rfl, rfl⟩ | exact jV | fail))
  conv => whnf
  refine loopk (ι := Nat) (fun i => i ≤ l.length) (fun i => l.length - i) (0) [0] (fun i => [(1, .v false [i6 (a + cnt (fun _ => 3) (l.take i) : Nat)]), (5, .v false [i6 i])]) [some fun i => some (true, cs true (mkL (fun _ => 3) mCl a (l.take i) ++ l.drop i)), none] ?_
  refine ⟨by omega, ?_, fun i hi => ?_⟩
  · exact jw []
  · have hle := cnt_le (c := (fun _ => 3)) (xs := l) (i := i)
    have htot : cnt (fun _ => 3) l = 3 * l.length := by first | rfl | exact cnt_const _ _
    refine ⟨fun hlt => ?_, fun hge => ?_⟩
    · have hi2 : i < l.length := by omega
      have hc := cnt_take (c := (fun _ => 3)) hi2
      have hle2 := cnt_le (c := (fun _ => 3)) (xs := l) (i := i + 1)
      have hA : (mkL (fun _ => 3) mCl a (l.take i)).length = i := by simp; omega
      try dsimp only at hc
      have hP : (cs true (mkL (fun _ => 3) mCl a (l.take i))).length = i * 3 := by rw [cs_len, hA]; rfl
      repeat' ((conv => whnf); (first | refine Exists.intro _ (And.intro (midp hi2 hA rfl) ?_) | refine Exists.intro _ (And.intro (midq hA rfl) ?_) | refine And.intro (by decide) (Exists.intro (((a + cnt (fun _ => 3) (l.take i) + 2) % 3 : Nat) : Int) (And.intro (by rw [Int.tmod_eq_emod_of_nonneg (by omega)]; rfl) ?_)) | refine k0 ?_ | refine jA fun _ => ?_ | refine jB fun _ => ?_ | refine kC (fun _ => ?_) fun _ => ?_ | (apply cx52; refine kl tx52 ?_) | refine jst ?_ | exact ⟨rfl, rfl⟩ | exact jV | fail))
      · refine ⟨⟨i + 1, by omega⟩, by simp only; omega, ?_⟩
        have e := mkf (c := (fun _ => 3)) (f := mCl) (a := a) (M := [s1 (mtx (a + cnt (fun _ => 3) (l.take i))), i6 ((a + cnt (fun _ => 3) (l.take i) + 1 : Nat) : Int), b1 true]) hi2 (by show _ = [s1 (mtx (a + cnt (fun _ => 3) (l.take i))), i6 ((a + cnt (fun _ => 3) (l.take i) + 1 : Nat) : Int), b1 (decide ((a + cnt (fun _ => 3) (l.take i) + 2) % 3 = 0))]; rw [decide_eq_true (by omega)])
        dsimp only
        exact w_autoX [] (by (conv => whnf); exact And.intro (by kernel_rfl) (And.intro (by kernel_rfl) (by repeat' (first | (with_reducible exact rfl) | ((conv => whnf); first | exact trivial | exact ⟨rfl, cs_clo _, e⟩ | exact rfl | exact tvi (by first | omega | (dsimp only; omega) | (simp; done)) | exact tvr (by first | omega | (dsimp only; omega) | (simp; done) | (simp; omega)) | exact ⟨rfl, clo_i, by first | rfl | rw [List.take_length] | assumption⟩ | refine And.intro ?_ ?_)))))
      · refine ⟨⟨i + 1, by omega⟩, by simp only; omega, ?_⟩
        have e := mkf (c := (fun _ => 3)) (f := mCl) (a := a) (M := [s1 (mtx (a + cnt (fun _ => 3) (l.take i))), i6 ((a + cnt (fun _ => 3) (l.take i) + 1 : Nat) : Int), b1 false]) hi2 (by show _ = [s1 (mtx (a + cnt (fun _ => 3) (l.take i))), i6 ((a + cnt (fun _ => 3) (l.take i) + 1 : Nat) : Int), b1 (decide ((a + cnt (fun _ => 3) (l.take i) + 2) % 3 = 0))]; rw [decide_eq_false (by omega)])
        dsimp only
        exact w_autoX [] (by (conv => whnf); exact And.intro (by kernel_rfl) (And.intro (by kernel_rfl) (by repeat' (first | (with_reducible exact rfl) | ((conv => whnf); first | exact trivial | exact ⟨rfl, cs_clo _, e⟩ | exact rfl | exact tvi (by first | omega | (dsimp only; omega) | (simp; done)) | exact tvr (by first | omega | (dsimp only; omega) | (simp; done) | (simp; omega)) | exact ⟨rfl, clo_i, by first | rfl | rw [List.take_length] | assumption⟩ | refine And.intro ?_ ?_)))))
    · obtain rfl : i = l.length := by omega
      have e : cnt (fun _ => 3) (l.take l.length) = cnt (fun _ => 3) l := by rw [List.take_length]
      repeat' ((conv => whnf); (first | refine k0 ?_ | refine jA fun _ => ?_ | refine jB fun _ => ?_ | refine kC (fun _ => ?_) fun _ => ?_ | (apply cx52; refine kl tx52 ?_) | refine jst ?_ | exact ⟨rfl, rfl⟩ | exact jV | fail))
      exact ⟨vIe (by omega), by rw [List.take_length, List.drop_length, List.append_nil]⟩

theorem cx53 {P : Program} {X : FuncId → List Arg → List (Bool × List Cell) → List (Option (List Cell)) → Prop} {a : List Arg} {Q : List (Bool × List Cell) → List (Option (List Cell)) → Prop} (h : ∃ b vals outs, a = b ∧ D P X (.call 53 b vals outs) ∧ Q vals outs) : CallS P X 53 a Q := ⟨h⟩

set_option maxRecDepth 100000 in
theorem tx54 {l : List By} {a : Nat} (ha : a + 2 * l.length ≤ 1000000000000000000 := by first | assumption | omega | (simp; done) | (simp; omega)) : T 54 [aO l, aI (a : Nat)] [vI (a + 2 * l.length : Nat)] [some (cs true (mkL (fun _ => 2) mBp a l)), none] := by
  refine w_call md [] Tryz.func54 rfl ?_
  repeat' ((conv => whnf); (first | refine k0 ?_ | refine jA fun _ => ?_ | refine jB fun _ => ?_ | refine kC (fun _ => ?_) fun _ => ?_ | refine jst ?_ | exact ⟨rfl, rfl⟩ | exact jV | fail))
  conv => whnf
  refine loopk (ι := Nat) (fun i => i ≤ l.length) (fun i => l.length - i) (0) [0] (fun i => [(1, .v false [i6 (a + cnt (fun _ => 2) (l.take i) : Nat)]), (5, .v false [i6 i])]) [some fun i => some (true, cs true (mkL (fun _ => 2) mBp a (l.take i) ++ l.drop i)), none] ?_
  refine ⟨by omega, ?_, fun i hi => ?_⟩
  · exact jw []
  · have hle := cnt_le (c := (fun _ => 2)) (xs := l) (i := i)
    have htot : cnt (fun _ => 2) l = 2 * l.length := by first | rfl | exact cnt_const _ _
    refine ⟨fun hlt => ?_, fun hge => ?_⟩
    · have hi2 : i < l.length := by omega
      have hc := cnt_take (c := (fun _ => 2)) hi2
      have hle2 := cnt_le (c := (fun _ => 2)) (xs := l) (i := i + 1)
      have hA : (mkL (fun _ => 2) mBp a (l.take i)).length = i := by simp; omega
      try dsimp only at hc
      have hP : (cs true (mkL (fun _ => 2) mBp a (l.take i))).length = i * 2 := by rw [cs_len, hA]; rfl
      repeat' ((conv => whnf); (first | refine Exists.intro _ (And.intro (midp hi2 hA rfl) ?_) | refine Exists.intro _ (And.intro (midq hA rfl) ?_) | refine And.intro (by decide) (Exists.intro (((a + cnt (fun _ => 2) (l.take i) + 1) % 3 : Nat) : Int) (And.intro (by rw [Int.tmod_eq_emod_of_nonneg (by omega)]; rfl) ?_)) | refine k0 ?_ | refine jA fun _ => ?_ | refine jB fun _ => ?_ | refine kC (fun _ => ?_) fun _ => ?_ | refine jst ?_ | exact ⟨rfl, rfl⟩ | exact jV | fail))
      · refine ⟨⟨i + 1, by omega⟩, by simp only; omega, ?_⟩
        have e := mkf (c := (fun _ => 2)) (f := mBp) (a := a) (M := [i6 ((a + cnt (fun _ => 2) (l.take i) : Nat) : Int), b1 true]) hi2 (by show _ = [i6 ((a + cnt (fun _ => 2) (l.take i) : Nat) : Int), b1 (decide ((a + cnt (fun _ => 2) (l.take i) + 1) % 3 = 0))]; rw [decide_eq_true (by omega)])
        dsimp only
        exact w_autoX [] (by (conv => whnf); exact And.intro (by kernel_rfl) (And.intro (by kernel_rfl) (by repeat' (first | (with_reducible exact rfl) | ((conv => whnf); first | exact trivial | exact ⟨rfl, cs_clo _, e⟩ | exact rfl | exact tvi (by first | omega | (dsimp only; omega) | (simp; done)) | exact tvr (by first | omega | (dsimp only; omega) | (simp; done) | (simp; omega)) | exact ⟨rfl, clo_i, by first | rfl | rw [List.take_length] | assumption⟩ | refine And.intro ?_ ?_)))))
      · refine ⟨⟨i + 1, by omega⟩, by simp only; omega, ?_⟩
        have e := mkf (c := (fun _ => 2)) (f := mBp) (a := a) (M := [i6 ((a + cnt (fun _ => 2) (l.take i) : Nat) : Int), b1 false]) hi2 (by show _ = [i6 ((a + cnt (fun _ => 2) (l.take i) : Nat) : Int), b1 (decide ((a + cnt (fun _ => 2) (l.take i) + 1) % 3 = 0))]; rw [decide_eq_false (by omega)])
        dsimp only
        exact w_autoX [] (by (conv => whnf); exact And.intro (by kernel_rfl) (And.intro (by kernel_rfl) (by repeat' (first | (with_reducible exact rfl) | ((conv => whnf); first | exact trivial | exact ⟨rfl, cs_clo _, e⟩ | exact rfl | exact tvi (by first | omega | (dsimp only; omega) | (simp; done)) | exact tvr (by first | omega | (dsimp only; omega) | (simp; done) | (simp; omega)) | exact ⟨rfl, clo_i, by first | rfl | rw [List.take_length] | assumption⟩ | refine And.intro ?_ ?_)))))
    · obtain rfl : i = l.length := by omega
      have e : cnt (fun _ => 2) (l.take l.length) = cnt (fun _ => 2) l := by rw [List.take_length]
      repeat' ((conv => whnf); (first | refine k0 ?_ | refine jA fun _ => ?_ | refine jB fun _ => ?_ | refine kC (fun _ => ?_) fun _ => ?_ | refine jst ?_ | exact ⟨rfl, rfl⟩ | exact jV | fail))
      exact ⟨vIe (by omega), by rw [List.take_length, List.drop_length, List.append_nil]⟩

theorem cx54 {P : Program} {X : FuncId → List Arg → List (Bool × List Cell) → List (Option (List Cell)) → Prop} {a : List Arg} {Q : List (Bool × List Cell) → List (Option (List Cell)) → Prop} (h : ∃ b vals outs, a = b ∧ D P X (.call 54 b vals outs) ∧ Q vals outs) : CallS P X 54 a Q := ⟨h⟩

set_option maxRecDepth 100000 in
theorem tx55 {l : List Ix} {a : Nat} (ha : a + cnt cIx l ≤ 1000000000000000000 := by first | assumption | omega | (simp; done) | (simp; omega)) : T 55 [aO l, aI (a : Nat)] [vI (a + cnt cIx l : Nat)] [some (cs true (mkL cIx mIx a l)), none] := by
  refine w_call md [] Tryz.func55 rfl ?_
  have hll := len_cnt (c := cIx) (fun x => by simp only [cIx]; omega) l
  repeat' ((conv => whnf); (first | refine k0 ?_ | refine jA fun _ => ?_ | refine jB fun _ => ?_ | refine kC (fun _ => ?_) fun _ => ?_ | (apply cx52; refine kl tx52 ?_) | (apply cx54; refine kl tx54 ?_) | refine jst ?_ | exact ⟨rfl, rfl⟩ | exact jV | fail))
  conv => whnf
  refine loopk (ι := Nat) (fun i => i ≤ l.length) (fun i => l.length - i) (0) [0] (fun i => [(1, .v false [i6 (a + cnt cIx (l.take i) : Nat)]), (5, .v false [i6 i])]) [some fun i => some (true, cs true (mkL cIx mIx a (l.take i) ++ l.drop i)), none] ?_
  refine ⟨by omega, ?_, fun i hi => ?_⟩
  · exact jw []
  · have hle := cnt_le (c := cIx) (xs := l) (i := i)
    have htot : cnt cIx l = cnt cIx l := by first | rfl | exact cnt_const _ _
    refine ⟨fun hlt => ?_, fun hge => ?_⟩
    · have hi2 : i < l.length := by omega
      have hc := cnt_take (c := cIx) hi2
      have hle2 := cnt_le (c := cIx) (xs := l) (i := i + 1)
      have hA : (mkL cIx mIx a (l.take i)).length = i := by simp; omega
      try dsimp only at hc
      have hcw : cIx l[i] = 2 + 2 * l[i].parts.length := rfl
      have hP : (cs true (mkL cIx mIx a (l.take i))).length = i * 3 := by rw [cs_len, hA]; rfl
      have h0 : cs true (mkL cIx mIx a (l.take i) ++ l.drop i) = cs true (mkL cIx mIx a (l.take i)) ++ [s1 l[i].name, b1 l[i].uniq, slE true l[i].parts] ++ cs true (l.drop (i + 1)) := (mid hA hi2).trans rfl
      have heq : ∀ b : Bool, b = decide ((a + cnt cIx (l.take i) + 1) % 3 = 0) → b1 b = b1 (decide ((a + cnt cIx (l.take i) + 1) % 3 = 0)) := fun b h => by rw [h]
      conv => whnf
      refine bstep (w_outE 0 (cs true (mkL cIx mIx a (l.take i)) ++ [s1 l[i].name, b1 l[i].uniq]) l[i].parts (cs true (l.drop (i + 1))) 2 (cs1 := cs true (mkL cIx mIx a (l.take i)) ++ [s1 l[i].name, b1 l[i].uniq, .ref 2 0 l[i].parts.length 2] ++ cs true (l.drop (i + 1))) (h1 := h0.trans (by simp)) (h2 := by simp)) ?_
      repeat' ((conv => whnf); (first | refine And.intro (by decide) (Exists.intro (((a + cnt cIx (l.take i) + 1) % 3 : Nat) : Int) (And.intro (by rw [Int.tmod_eq_emod_of_nonneg (by omega)]; rfl) ?_)) | refine Exists.intro _ (And.intro (putM 0 (by omega) rfl) ?_) | refine Exists.intro _ (And.intro (putM 1 (by omega) rfl) ?_) | refine Exists.intro _ (And.intro (cutM 2 (by omega) rfl) ?_) | refine k0 ?_ | refine jA fun _ => ?_ | refine jB fun _ => ?_ | refine kC (fun _ => ?_) fun _ => ?_ | (apply cx52; refine kl tx52 ?_) | (apply cx54; refine kl tx54 ?_) | refine jst ?_ | exact ⟨rfl, rfl⟩ | exact jV | fail))
      · refine ⟨⟨i + 1, by omega⟩, by simp only; omega, ?_⟩
        refine WGh.trans (w_inE 0 2 (cs true (mkL cIx mIx a (l.take i)) ++ [s1 (mtx (a + cnt cIx (l.take i))), b1 true]) (mkL (fun _ => 2) mBp (a + cnt cIx (l.take i) + 2) l[i].parts) (cs true (l.drop (i + 1))) l[i].parts.length 2 (mkf2 hi2 (by rw [heq true (by simp; omega)]; first | done | rfl))) ?_
        dsimp only
        exact jw []
      · refine ⟨⟨i + 1, by omega⟩, by simp only; omega, ?_⟩
        refine WGh.trans (w_inE 0 2 (cs true (mkL cIx mIx a (l.take i)) ++ [s1 (mtx (a + cnt cIx (l.take i))), b1 false]) (mkL (fun _ => 2) mBp (a + cnt cIx (l.take i) + 2) l[i].parts) (cs true (l.drop (i + 1))) l[i].parts.length 2 (mkf2 hi2 (by rw [heq false (by simp; omega)]; first | done | rfl))) ?_
        dsimp only
        exact jw []
    · obtain rfl : i = l.length := by omega
      have e : cnt cIx (l.take l.length) = cnt cIx l := by rw [List.take_length]
      repeat' ((conv => whnf); (first | refine k0 ?_ | refine jA fun _ => ?_ | refine jB fun _ => ?_ | refine kC (fun _ => ?_) fun _ => ?_ | (apply cx52; refine kl tx52 ?_) | (apply cx54; refine kl tx54 ?_) | refine jst ?_ | exact ⟨rfl, rfl⟩ | exact jV | fail))
      exact ⟨vIe (by omega), by rw [List.take_length, List.drop_length, List.append_nil]⟩

theorem cx55 {P : Program} {X : FuncId → List Arg → List (Bool × List Cell) → List (Option (List Cell)) → Prop} {a : List Arg} {Q : List (Bool × List Cell) → List (Option (List Cell)) → Prop} (h : ∃ b vals outs, a = b ∧ D P X (.call 55 b vals outs) ∧ Q vals outs) : CallS P X 55 a Q := ⟨h⟩

set_option maxRecDepth 100000 in
theorem tx19 {l : List Df} {a : Nat} (ha : a + cnt cDf l ≤ 1000000000000000000 := by first | assumption | omega | (simp; done) | (simp; omega)) : T 19 [aO l, aI (a : Nat)] [vI (a + cnt cDf l : Nat)] [some (cs true (mkL cDf mDf a l)), none] := by
  refine w_call md [] Tryz.func19 rfl ?_
  have hll := len_cnt (c := cDf) (fun x => by simp only [cDf]; omega) l
  repeat' ((conv => whnf); (first | refine k0 ?_ | refine jA fun _ => ?_ | refine jB fun _ => ?_ | refine kC (fun _ => ?_) fun _ => ?_ | (apply cx52; refine kl tx52 ?_) | (apply cx53; refine kl tx53 ?_) | (apply cx54; refine kl tx54 ?_) | (apply cx55; refine kl tx55 ?_) | refine jst ?_ | exact ⟨rfl, rfl⟩ | exact jV | fail))
  conv => whnf
  refine loopk (ι := Nat) (fun i => i ≤ l.length) (fun i => l.length - i) (0) [0] (fun i => [(1, .v false [i6 (a + cnt cDf (l.take i) : Nat)]), (5, .v false [i6 i])]) [some fun i => some (true, cs true (mkL cDf mDf a (l.take i) ++ l.drop i)), none] ?_
  refine ⟨by omega, ?_, fun i hi => ?_⟩
  · exact jw []
  · have hle := cnt_le (c := cDf) (xs := l) (i := i)
    have htot : cnt cDf l = cnt cDf l := by first | rfl | exact cnt_const _ _
    refine ⟨fun hlt => ?_, fun hge => ?_⟩
    · have hi2 : i < l.length := by omega
      have hc := cnt_take (c := cDf) hi2
      have hle2 := cnt_le (c := cDf) (xs := l) (i := i + 1)
      have hA : (mkL cDf mDf a (l.take i)).length = i := by simp; omega
      try dsimp only at hc
      have hcw : cDf l[i] = 1 + 3 * l[i].cols.length + 2 * l[i].prim.length + cnt cIx l[i].idx := rfl
      have hP : (cs true (mkL cDf mDf a (l.take i))).length = i * 4 := by rw [cs_len, hA]; rfl
      have h0 : cs true (mkL cDf mDf a (l.take i) ++ l.drop i) = cs true (mkL cDf mDf a (l.take i)) ++ [s1 l[i].name, slE true l[i].cols, slE true l[i].prim, slE true l[i].idx] ++ cs true (l.drop (i + 1)) := (mid hA hi2).trans rfl
      conv => whnf
      refine bstep (w_outE 0 (cs true (mkL cDf mDf a (l.take i)) ++ [s1 l[i].name]) l[i].cols ([slE true l[i].prim, slE true l[i].idx] ++ cs true (l.drop (i + 1))) 3 (h1 := h0.trans (by simp))) ?_
      refine bstep (w_outE 0 (cs true (mkL cDf mDf a (l.take i)) ++ [s1 l[i].name, .ref 2 0 l[i].cols.length 3]) l[i].prim ([slE true l[i].idx] ++ cs true (l.drop (i + 1))) 2) ?_
      refine bstep (w_outE 0 (cs true (mkL cDf mDf a (l.take i)) ++ [s1 l[i].name, .ref 2 0 l[i].cols.length 3, .ref 3 0 l[i].prim.length 2]) l[i].idx (cs true (l.drop (i + 1))) 3 (cs1 := cs true (mkL cDf mDf a (l.take i)) ++ [s1 l[i].name, .ref 2 0 l[i].cols.length 3, .ref 3 0 l[i].prim.length 2, .ref 4 0 l[i].idx.length 3] ++ cs true (l.drop (i + 1))) (h2 := by simp)) ?_
      repeat' ((conv => whnf); (first | refine Exists.intro _ (And.intro (putM 0 (by omega) rfl) ?_) | refine Exists.intro _ (And.intro (cutM 1 (by omega) rfl) ?_) | refine Exists.intro _ (And.intro (cutM 2 (by omega) rfl) ?_) | refine Exists.intro _ (And.intro (cutM 3 (by omega) rfl) ?_) | refine k0 ?_ | refine jA fun _ => ?_ | refine jB fun _ => ?_ | refine kC (fun _ => ?_) fun _ => ?_ | (apply cx52; refine kl tx52 ?_) | (apply cx53; refine kl tx53 ?_) | (apply cx54; refine kl tx54 ?_) | (apply cx55; refine kl tx55 ?_) | refine jst ?_ | exact ⟨rfl, rfl⟩ | exact jV | fail))
      refine ⟨⟨i + 1, by omega⟩, by simp only; omega, ?_⟩
      refine WGh.trans (w_inE 0 2 (cs true (mkL cDf mDf a (l.take i)) ++ [s1 (mtx (a + cnt cDf (l.take i)))]) (mkL (fun _ => 3) mCl (a + cnt cDf (l.take i) + 1) l[i].cols) ([.ref 3 0 l[i].prim.length 2, .ref 4 0 l[i].idx.length 3] ++ cs true (l.drop (i + 1))) l[i].cols.length 3 rfl) ?_
      refine WGh.trans (w_inE 0 3 (cs true (mkL cDf mDf a (l.take i)) ++ [s1 (mtx (a + cnt cDf (l.take i))), slE true (mkL (fun _ => 3) mCl (a + cnt cDf (l.take i) + 1) l[i].cols)]) (mkL (fun _ => 2) mBp (a + cnt cDf (l.take i) + 1 + 3 * l[i].cols.length) l[i].prim) ([.ref 4 0 l[i].idx.length 3] ++ cs true (l.drop (i + 1))) l[i].prim.length 2 rfl) ?_
      refine WGh.trans (w_inE 0 4 (cs true (mkL cDf mDf a (l.take i)) ++ [s1 (mtx (a + cnt cDf (l.take i))), slE true (mkL (fun _ => 3) mCl (a + cnt cDf (l.take i) + 1) l[i].cols), slE true (mkL (fun _ => 2) mBp (a + cnt cDf (l.take i) + 1 + 3 * l[i].cols.length) l[i].prim)]) (mkL cIx mIx (a + cnt cDf (l.take i) + 1 + 3 * l[i].cols.length + 2 * l[i].prim.length) l[i].idx) (cs true (l.drop (i + 1))) l[i].idx.length 3 (mkf2 hi2 rfl)) ?_
      dsimp only
      exact jw []
    · obtain rfl : i = l.length := by omega
      have e : cnt cDf (l.take l.length) = cnt cDf l := by rw [List.take_length]
      repeat' ((conv => whnf); (first | refine k0 ?_ | refine jA fun _ => ?_ | refine jB fun _ => ?_ | refine kC (fun _ => ?_) fun _ => ?_ | (apply cx52; refine kl tx52 ?_) | (apply cx53; refine kl tx53 ?_) | (apply cx54; refine kl tx54 ?_) | (apply cx55; refine kl tx55 ?_) | refine jst ?_ | exact ⟨rfl, rfl⟩ | exact jV | fail))
      exact ⟨vIe (by omega), by rw [List.take_length, List.drop_length, List.append_nil]⟩

theorem cx19 {P : Program} {X : FuncId → List Arg → List (Bool × List Cell) → List (Option (List Cell)) → Prop} {a : List Arg} {Q : List (Bool × List Cell) → List (Option (List Cell)) → Prop} (h : ∃ b vals outs, a = b ∧ D P X (.call 19 b vals outs) ∧ Q vals outs) : CallS P X 19 a Q := ⟨h⟩

end Go.Proofs.YtopnaijeicknoaaGreatDoor
