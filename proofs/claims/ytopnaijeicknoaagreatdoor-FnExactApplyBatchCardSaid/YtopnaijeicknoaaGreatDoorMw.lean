/- Functions of the program, each with what it gives back. -/
import Derived.Test.YtopnaijeicknoaaGreatDoorKe
import Derived.Test.YtopnaijeicknoaaGreatDoorChecked
import Derived.IntWalk
import Derived.Test.YtopnaijeicknoaaGreatDoorMa
import Derived.Test.YtopnaijeicknoaaGreatDoorMf
import Derived.Test.YtopnaijeicknoaaGreatDoorMb
import Derived.Test.YtopnaijeicknoaaGreatDoorMc
import Derived.Test.YtopnaijeicknoaaGreatDoorMd
namespace Go.Proofs.YtopnaijeicknoaaGreatDoor
open Go Go.RowKit Go.IntWalk
open Enc (sz cs)
attribute [local irreducible] IntKind.wrap

abbrev zOp (x : Opn) : Nat := zRow x.row
abbrev cOp (x : Opn) : Nat := 2 + 3 * x.row.length
abbrev mOp (a : Nat) (x : Opn) : Opn := ⟨(a : Nat), (a + 1 : Nat), mR (a + 2) x.row⟩

set_option maxRecDepth 100000 in
theorem tx16 {x : Opn} (hx : x.row.length ≤ 10000000 := by first | assumption | omega | (simp; done) | (simp; omega)) : T 16 [.val true (opC false x)] [(true, opC true x)] [none] := by
  refine w_call md [] Tryz.func16 rfl ?_
  repeat' ((conv => whnf); (first | refine k0 ?_ | refine jA fun _ => ?_ | refine jB fun _ => ?_ | refine kC (fun _ => ?_) fun _ => ?_ | (apply cx47; refine kl tx47 ?_) | refine jst ?_ | exact ⟨rfl, rfl⟩ | exact jV | fail))

theorem cx16 {P : Program} {X : FuncId → List Arg → List (Bool × List Cell) → List (Option (List Cell)) → Prop} {a : List Arg} {Q : List (Bool × List Cell) → List (Option (List Cell)) → Prop} (h : ∃ b vals outs, a = b ∧ D P X (.call 16 b vals outs) ∧ Q vals outs) : CallS P X 16 a Q := ⟨h⟩

set_option maxRecDepth 100000 in
theorem tx25 {l : List Opn} (hl : l.length ≤ 10000000 := by first | assumption | omega | (simp; done) | (simp; omega)) (hel : ∀ x ∈ l, x.row.length ≤ 10000000 := by assumption) : T 25 [aE l] [vE l] [none] := by
  refine w_call md [] Tryz.func25 rfl ?_
  repeat' ((conv => whnf); (first | refine k0 ?_ | refine jA fun _ => ?_ | refine jB fun _ => ?_ | refine kC (fun _ => ?_) fun _ => ?_ | (apply cx16; refine kl tx16 ?_) | refine jst ?_ | exact ⟨rfl, rfl⟩ | exact jV | fail))
  conv => whnf
  refine loopk (ι := Nat) (fun i => i ≤ l.length) (fun i => l.length - i) (0) [0, 3] (fun i => [(4, .v false [i6 i])]) [none, some fun i => some (true, cs true (l.take i) ++ zerosT [i6 0, i6 0, .nil] (l.length - i))] ?_
  refine ⟨by omega, ?_, fun i hi => ?_⟩
  · exact jw []
  · refine ⟨fun hlt => ?_, fun hge => ?_⟩
    · have hi2 : i < l.length := by omega
      have he := hel _ (List.getElem_mem hi2)
      repeat refine k0 ?_
      repeat' ((conv => whnf); (first | refine ⟨_, ptz (by omega) (by omega), ?_⟩ | refine jA fun _ => ?_ | refine jB fun _ => ?_ | refine kC (fun _ => ?_) fun _ => ?_ | (apply cx16; refine kl tx16 ?_) | refine jst ?_ | exact ⟨rfl, rfl⟩ | exact jV | fail))
      conv => whnf
      refine bstep (w_inE 1 2 (cs true (l.take i) ++ [i6 l[i].kind, i6 l[i].t]) l[i].row (zerosT [i6 0, i6 0, .nil] (l.length - (i + 1))) l[i].row.length 3 (fil2 hi2 rfl)) ?_
      repeat' ((conv => whnf); (first | refine k0 ?_ | refine jA fun _ => ?_ | refine jB fun _ => ?_ | refine kC (fun _ => ?_) fun _ => ?_ | (apply cx16; refine kl tx16 ?_) | refine jst ?_ | exact ⟨rfl, rfl⟩ | exact jV | fail))
      refine ⟨⟨i + 1, by omega⟩, by simp only; omega, ?_⟩
      exact jw []
    · have e : cs true (l.take i) ++ zerosT [i6 0, i6 0, .nil] (l.length - i) = cs true l := fil_all (by omega) (by omega)
      repeat' ((conv => whnf); (first | refine ⟨⟨rfl, by rw [e]; exact cs_len l, by decide, by rw [e]; exact cs_shal l⟩, ?_⟩ | refine k0 ?_ | refine jA fun _ => ?_ | refine jB fun _ => ?_ | refine kC (fun _ => ?_) fun _ => ?_ | (apply cx16; refine kl tx16 ?_) | refine jst ?_ | exact ⟨rfl, rfl⟩ | exact jV | fail))
      exact ⟨by rw [e]; rfl, rfl⟩

theorem cx25 {P : Program} {X : FuncId → List Arg → List (Bool × List Cell) → List (Option (List Cell)) → Prop} {a : List Arg} {Q : List (Bool × List Cell) → List (Option (List Cell)) → Prop} (h : ∃ b vals outs, a = b ∧ D P X (.call 25 b vals outs) ∧ Q vals outs) : CallS P X 25 a Q := ⟨h⟩

set_option maxRecDepth 100000 in
theorem tx18 {x : Opn} (hx : x.row.length ≤ 1000000000000 := by first | assumption | omega | (simp; done) | (simp; omega)) : T 18 [.val true (opC false x), .val true (opC false x)] [vB true] [none, none] := by
  refine w_call md [] Tryz.func18 rfl ?_
  repeat' ((conv => whnf); (first | refine k0 ?_ | refine jA fun _ => ?_ | refine jB fun _ => ?_ | refine kC (fun _ => ?_) fun _ => ?_ | (apply cx51; refine kl tx51 ?_) | refine jst ?_ | exact ⟨rfl, rfl⟩ | exact jV | fail))

theorem cx18 {P : Program} {X : FuncId → List Arg → List (Bool × List Cell) → List (Option (List Cell)) → Prop} {a : List Arg} {Q : List (Bool × List Cell) → List (Option (List Cell)) → Prop} (h : ∃ b vals outs, a = b ∧ D P X (.call 18 b vals outs) ∧ Q vals outs) : CallS P X 18 a Q := ⟨h⟩

set_option maxRecDepth 100000 in
theorem tx27 {l : List Opn} (hl : l.length ≤ 1000000000000 := by first | assumption | omega | (simp; done) | (simp; omega)) (hel : ∀ x ∈ l, x.row.length ≤ 1000000000000 := by assumption) : T 27 [aE l, aE l] [vB true] [none, none] := by
  refine w_call md [] Tryz.func27 rfl ?_
  repeat' ((conv => whnf); (first | refine k0 ?_ | refine jA fun _ => ?_ | refine jB fun _ => ?_ | refine kC (fun _ => ?_) fun _ => ?_ | (apply cx18; refine kl tx18 ?_) | refine jst ?_ | exact ⟨rfl, rfl⟩ | exact jV | fail))
  conv => whnf
  refine loopk (ι := Nat) (fun i => i ≤ l.length) (fun i => l.length - i) (0) [0, 1] (fun i => [(5, .v false [i6 i])]) [none, none] ?_
  refine ⟨by omega, ?_, fun i hi => ?_⟩
  · exact jw []
  · refine ⟨fun hlt => ?_, fun hge => ?_⟩
    · have hi2 : i < l.length := by omega
      have he := hel _ (List.getElem_mem hi2)
      repeat' ((conv => whnf); (first | refine k0 ?_ | refine jA fun _ => ?_ | refine jB fun _ => ?_ | refine kC (fun _ => ?_) fun _ => ?_ | (apply cx18; refine kl tx18 ?_) | refine jst ?_ | exact ⟨rfl, rfl⟩ | exact jV | fail))
      refine ⟨⟨i + 1, by omega⟩, by simp only; omega, ?_⟩
      exact jw []
    · repeat' ((conv => whnf); (first | refine k0 ?_ | refine jA fun _ => ?_ | refine jB fun _ => ?_ | refine kC (fun _ => ?_) fun _ => ?_ | (apply cx18; refine kl tx18 ?_) | refine jst ?_ | exact ⟨rfl, rfl⟩ | exact jV | fail))

theorem cx27 {P : Program} {X : FuncId → List Arg → List (Bool × List Cell) → List (Option (List Cell)) → Prop} {a : List Arg} {Q : List (Bool × List Cell) → List (Option (List Cell)) → Prop} (h : ∃ b vals outs, a = b ∧ D P X (.call 27 b vals outs) ∧ Q vals outs) : CallS P X 27 a Q := ⟨h⟩

set_option maxRecDepth 100000 in
theorem tx14 {x : Opn} {n : Int} (hn : 0 ≤ n ∧ n ≤ 1000000000000 := by first | assumption | omega | (simp; done) | (simp; omega)) (hw : BdRow x.row := by first | assumption | omega | (simp; done) | (simp; omega)) : T 14 [.val true (opC false x), aI n] [vI (if n < ((zOp x : Nat) : Int) then -1 else n - ((zOp x : Nat) : Int))] [none, none] := by
  refine w_call md [] Tryz.func14 rfl ?_
  obtain ⟨h1, h2⟩ := hw
  unfold zOp zRow
  repeat' ((conv => whnf); (first | refine k0 ?_ | refine jA fun _ => ?_ | refine jB fun _ => ?_ | refine kC (fun _ => ?_) fun _ => ?_ | (apply cx39; refine kl tx39 ?_) | refine jst ?_ | exact ⟨rfl, rfl⟩ | exact jV | fail))

theorem cx14 {P : Program} {X : FuncId → List Arg → List (Bool × List Cell) → List (Option (List Cell)) → Prop} {a : List Arg} {Q : List (Bool × List Cell) → List (Option (List Cell)) → Prop} (h : ∃ b vals outs, a = b ∧ D P X (.call 14 b vals outs) ∧ Q vals outs) : CallS P X 14 a Q := ⟨h⟩

set_option maxRecDepth 100000 in
theorem tx23 {l : List Opn} {n : Int} (hn : 0 ≤ n ∧ n ≤ 1000000000000 := by first | assumption | omega | (simp; done) | (simp; omega)) (hl : l.length ≤ 100000000000000 := by first | assumption | omega | (simp; done) | (simp; omega)) (hel : ∀ x ∈ l, BdRow x.row := by assumption) : T 23 [aE l, aI n] [vI (if n < ((l.length + cnt (zOp) l : Nat) : Int) then -1 else n - ((l.length + cnt (zOp) l : Nat) : Int))] [none, none] := by
  refine w_call md [] Tryz.func23 rfl ?_
  repeat' ((conv => whnf); (first | refine k0 ?_ | refine jA fun _ => ?_ | refine jB fun _ => ?_ | refine kC (fun _ => ?_) fun _ => ?_ | (apply cx14; refine kl tx14 ?_) | refine jst ?_ | exact ⟨rfl, rfl⟩ | exact jV | fail))
  conv => whnf
  refine loopk (ι := Nat) (fun i => i ≤ l.length ∧ (l.length + cnt (zOp) (l.take i) : Nat) ≤ n) (fun i => l.length - i) (0) [0] (fun i => [(1, .v false [i6 (n - (l.length + cnt (zOp) (l.take i) : Nat))]), (5, .v false [i6 i])]) [none, none] ?_
  refine ⟨⟨by omega, by simp [cnt]; omega⟩, ?_, fun i hi => ?_⟩
  · exact w_autoX [] (by (conv => whnf); exact And.intro (by kernel_rfl) (And.intro (by kernel_rfl) (by repeat' (first | (with_reducible exact rfl) | ((conv => whnf); first | exact trivial | exact tvi (by simp [cnt]) | exact rfl | exact tvi (by first | omega | (dsimp only; omega) | (simp; done)) | exact tvr (by first | omega | (dsimp only; omega) | (simp; done) | (simp; omega)) | exact ⟨rfl, clo_i, by first | rfl | rw [List.take_length] | assumption⟩ | refine And.intro ?_ ?_)))))
  · have hle := cnt_le (c := zOp) (xs := l) (i := i)
    refine ⟨fun hlt => ?_, fun hge => ?_⟩
    · have hi2 : i < l.length := by omega
      have hc := cnt_take (c := zOp) hi2
      have hle2 := cnt_le (c := zOp) (xs := l) (i := i + 1)
      have he := hel _ (List.getElem_mem hi2)
      try dsimp only at hc
      repeat' ((conv => whnf); (first | refine k0 ?_ | refine jA fun _ => ?_ | refine jB fun _ => ?_ | refine kC (fun _ => ?_) fun _ => ?_ | (apply cx14; refine kl tx14 ?_) | refine jst ?_ | exact ⟨rfl, rfl⟩ | exact jV | fail))
      refine ⟨⟨i + 1, by omega, by omega⟩, by simp only; omega, ?_⟩
      dsimp only
      exact jw []
    · obtain rfl : i = l.length := by omega
      have e : cnt (zOp) (l.take l.length) = cnt (zOp) l := by rw [List.take_length]
      repeat' ((conv => whnf); (first | refine k0 ?_ | refine jA fun _ => ?_ | refine jB fun _ => ?_ | refine kC (fun _ => ?_) fun _ => ?_ | (apply cx14; refine kl tx14 ?_) | refine jst ?_ | exact ⟨rfl, rfl⟩ | exact jV | fail))

theorem cx23 {P : Program} {X : FuncId → List Arg → List (Bool × List Cell) → List (Option (List Cell)) → Prop} {a : List Arg} {Q : List (Bool × List Cell) → List (Option (List Cell)) → Prop} (h : ∃ b vals outs, a = b ∧ D P X (.call 23 b vals outs) ∧ Q vals outs) : CallS P X 23 a Q := ⟨h⟩

set_option maxRecDepth 100000 in
theorem tx21 {x : Opn} {a : Nat} (hx : x.row.length ≤ 10000000 := by first | assumption | omega | (simp; done) | (simp; omega)) (ha : a + 3 * x.row.length ≤ 1000000000000000000 := by first | assumption | omega | (simp; done) | (simp; omega)) : T 21 [.val true [i6 x.kind, i6 x.t, .ref 2 0 x.row.length 3], aI (a : Nat), .ex (cs true x.row)] [vI (a + 3 * x.row.length : Nat)] [none, none, some (cs true (mR a x.row))] := by
  refine w_call md [] Tryz.func21 rfl ?_
  repeat' ((conv => whnf); (first | refine k0 ?_ | refine jA fun _ => ?_ | refine jB fun _ => ?_ | refine kC (fun _ => ?_) fun _ => ?_ | (apply cx57; refine kl tx57 ?_) | refine jst ?_ | exact ⟨rfl, rfl⟩ | exact jV | fail))

theorem cx21 {P : Program} {X : FuncId → List Arg → List (Bool × List Cell) → List (Option (List Cell)) → Prop} {a : List Arg} {Q : List (Bool × List Cell) → List (Option (List Cell)) → Prop} (h : ∃ b vals outs, a = b ∧ D P X (.call 21 b vals outs) ∧ Q vals outs) : CallS P X 21 a Q := ⟨h⟩

set_option maxRecDepth 100000 in
theorem tx28 {l : List Opn} {a : Nat} (ha : a + cnt cOp l ≤ 1000000000000000000 := by first | assumption | omega | (simp; done) | (simp; omega)) : T 28 [aO l, aI (a : Nat)] [vI (a + cnt cOp l : Nat)] [some (cs true (mkL cOp mOp a l)), none] := by
  refine w_call md [] Tryz.func28 rfl ?_
  have hll := len_cnt (c := cOp) (fun x => by simp only [cOp]; omega) l
  repeat' ((conv => whnf); (first | refine k0 ?_ | refine jA fun _ => ?_ | refine jB fun _ => ?_ | refine kC (fun _ => ?_) fun _ => ?_ | (apply cx57; refine kl tx57 ?_) | refine jst ?_ | exact ⟨rfl, rfl⟩ | exact jV | fail))
  conv => whnf
  refine loopk (ι := Nat) (fun i => i ≤ l.length) (fun i => l.length - i) (0) [0] (fun i => [(1, .v false [i6 (a + cnt cOp (l.take i) : Nat)]), (5, .v false [i6 i])]) [some fun i => some (true, cs true (mkL cOp mOp a (l.take i) ++ l.drop i)), none] ?_
  refine ⟨by omega, ?_, fun i hi => ?_⟩
  · exact jw []
  · have hle := cnt_le (c := cOp) (xs := l) (i := i)
    have htot : cnt cOp l = cnt cOp l := by first | rfl | exact cnt_const _ _
    refine ⟨fun hlt => ?_, fun hge => ?_⟩
    · have hi2 : i < l.length := by omega
      have hc := cnt_take (c := cOp) hi2
      have hle2 := cnt_le (c := cOp) (xs := l) (i := i + 1)
      have hA : (mkL cOp mOp a (l.take i)).length = i := by simp; omega
      try dsimp only at hc
      have hcw : cOp l[i] = 2 + 3 * l[i].row.length := rfl
      have hP : (cs true (mkL cOp mOp a (l.take i))).length = i * 3 := by rw [cs_len, hA]; rfl
      have h0 : cs true (mkL cOp mOp a (l.take i) ++ l.drop i) = cs true (mkL cOp mOp a (l.take i)) ++ [i6 l[i].kind, i6 l[i].t, slE true l[i].row] ++ cs true (l.drop (i + 1)) := (mid hA hi2).trans rfl
      conv => whnf
      refine bstep (w_outE 0 (cs true (mkL cOp mOp a (l.take i)) ++ [i6 l[i].kind, i6 l[i].t]) l[i].row (cs true (l.drop (i + 1))) 3 (cs1 := cs true (mkL cOp mOp a (l.take i)) ++ [i6 l[i].kind, i6 l[i].t, .ref 2 0 l[i].row.length 3] ++ cs true (l.drop (i + 1))) (h1 := h0.trans (by simp)) (h2 := by simp)) ?_
      repeat' ((conv => whnf); (first | refine Exists.intro _ (And.intro (putM 0 (by omega) rfl) ?_) | refine Exists.intro _ (And.intro (putM 1 (by omega) rfl) ?_) | refine Exists.intro _ (And.intro (cutM 2 (by omega) rfl) ?_) | refine k0 ?_ | refine jA fun _ => ?_ | refine jB fun _ => ?_ | refine kC (fun _ => ?_) fun _ => ?_ | (apply cx57; refine kl tx57 ?_) | refine jst ?_ | exact ⟨rfl, rfl⟩ | exact jV | fail))
      refine ⟨⟨i + 1, by omega⟩, by simp only; omega, ?_⟩
      refine WGh.trans (w_inE 0 2 (cs true (mkL cOp mOp a (l.take i)) ++ [i6 ((a + cnt cOp (l.take i) : Nat) : Int), i6 ((a + cnt cOp (l.take i) + 1 : Nat) : Int)]) (mkL (fun _ => 3) mV (a + cnt cOp (l.take i) + 2) l[i].row) (cs true (l.drop (i + 1))) l[i].row.length 3 (mkf2 hi2 rfl)) ?_
      dsimp only
      exact jw []
    · obtain rfl : i = l.length := by omega
      have e : cnt cOp (l.take l.length) = cnt cOp l := by rw [List.take_length]
      repeat' ((conv => whnf); (first | refine k0 ?_ | refine jA fun _ => ?_ | refine jB fun _ => ?_ | refine kC (fun _ => ?_) fun _ => ?_ | (apply cx57; refine kl tx57 ?_) | refine jst ?_ | exact ⟨rfl, rfl⟩ | exact jV | fail))
      exact ⟨vIe (by omega), by rw [List.take_length, List.drop_length, List.append_nil]⟩

theorem cx28 {P : Program} {X : FuncId → List Arg → List (Bool × List Cell) → List (Option (List Cell)) → Prop} {a : List Arg} {Q : List (Bool × List Cell) → List (Option (List Cell)) → Prop} (h : ∃ b vals outs, a = b ∧ D P X (.call 28 b vals outs) ∧ Q vals outs) : CallS P X 28 a Q := ⟨h⟩

end Go.Proofs.YtopnaijeicknoaaGreatDoor
