/- Functions of the program, each with what it gives back. -/
import Derived.Test.YtkggnekdjdnhiaaGreatKe
import Derived.Test.YtkggnekdjdnhiaaGreatChecked
import Derived.IntWalk
import Derived.Test.YtkggnekdjdnhiaaGreatFk
namespace Go.Proofs.YtkggnekdjdnhiaaGreat
open Go Go.RowKit Go.IntWalk
open Enc (sz cs)
attribute [local irreducible] IntKind.wrap

attribute [local irreducible] gU gT gS gP gM ptP ptM ptS crcN rdS bdN

set_option maxRecDepth 100000 in
theorem tx99 {x : Nod} (hx : zN x ≤ 2000000 := by first | assumption | omega | (simp; done) | (simp; omega)) : T 99 [.val true (nodC false x)] [vI (bdN x).length] [none] := by
  refine w_call md [] Tryz.func99 rfl ?_
  repeat' ((conv => whnf); (first | refine k0 ?_ | refine jA fun _ => ?_ | refine jB fun _ => ?_ | refine kC (fun _ => ?_) fun _ => ?_ | (apply cx114; refine kl tx114 ?_) | refine jst ?_ | exact ⟨rfl, rfl⟩ | exact jV | fail))

theorem cx99 {P : Program} {X : FuncId → List Arg → List (Bool × List Cell) → List (Option (List Cell)) → Prop} {a : List Arg} {Q : List (Bool × List Cell) → List (Option (List Cell)) → Prop} (h : ∃ b vals outs, a = b ∧ D P X (.call 99 b vals outs) ∧ Q vals outs) : CallS P X 99 a Q := ⟨h⟩

set_option maxHeartbeats 2000000 in
set_option maxRecDepth 100000 in
theorem tx52 {x : Nod} (hx : zN x ≤ 2000000 := by first | assumption | omega | (simp; done) | (simp; omega)) : T 52 [.val true (nodC false x)] [vB (nodOk x)] [none] := by
  obtain ⟨leaf, keys, vals, kids⟩ := x
  have hbl := bdN_len (x := ⟨leaf, keys, vals, kids⟩)
  have hz : keys.length + cnt ByteArray.size keys + (vals.length + cnt ByteArray.size vals) + kids.length ≤ 2000000 := hx
  dsimp only [nodC]
  refine w_call md [] Tryz.func52 rfl ?_
  cases leaf
  · repeat' ((conv => whnf); (first | refine k0 ?_ | refine jA fun _ => ?_ | refine jB fun _ => ?_ | refine kC (fun _ => ?_) fun _ => ?_ | (apply cx99; refine kl tx99 ?_) | (apply cx100; refine kl tx100 ?_) | refine jst ?_ | exact ⟨rfl, rfl⟩ | exact jV | fail))
    conv => whnf
    refine loopk (ι := Nat) (fun i => i ≤ keys.length ∧ ∀ j (h : j < keys.length), j < i → keys[j].size ≤ 48 ∧ (0 < j → Op.bytesLess keys[j - 1].toList keys[j].toList = true)) (fun i => keys.length - i) (0) [1, 10, 11] (fun i => [(12, .v false [i6 i])]) [none, none] ?_
    refine ⟨⟨by omega, by intros; omega⟩, ?_, fun i hi => ?_⟩
    · exact jw []
    · skip
      refine ⟨fun hlt => ?_, fun hge => ?_⟩
      · have hi2 : i < keys.length := by omega
        repeat' ((conv => whnf); (first | refine And.intro ⟨by omega, by omega⟩ (Exists.intro _ (And.intro (rdI (i := i - 1) (by omega) (by omega)) ?_)) | refine k0 ?_ | refine jA fun _ => ?_ | refine jB fun _ => ?_ | refine kC (fun _ => ?_) fun _ => ?_ | (apply cx99; refine kl tx99 ?_) | (apply cx100; refine kl tx100 ?_) | refine jst ?_ | exact ⟨rfl, rfl⟩ | exact jV | fail))
        all_goals first
          | exact ⟨by rw [nodOk_no (fun q => by have q2 := q.key i hi2; dsimp only at q2; first | omega | exact ngf ‹_› (q2.2 (by omega)))], rfl⟩
          | (refine ⟨⟨i + 1, by omega, all_suc hi.2 hi2 ⟨by omega, fun _ => by first | omega | exact ng ‹_›⟩⟩, by simp only; omega, ?_⟩
             exact jw [])
      · obtain rfl : i = keys.length := by omega
        have hA : ∀ j (h : j < keys.length), keys[j].size ≤ 48 ∧ (0 < j → Op.bytesLess keys[j - 1].toList keys[j].toList = true) := fun j h => hi.2 j h h
        clear hi
        repeat' ((conv => whnf); (first | refine k0 ?_ | refine jA fun _ => ?_ | refine jB fun _ => ?_ | refine kC (fun _ => ?_) fun _ => ?_ | (apply cx99; refine kl tx99 ?_) | (apply cx100; refine kl tx100 ?_) | refine jst ?_ | exact ⟨rfl, rfl⟩ | exact jV | fail))
        conv => whnf
        refine loopk (ι := Nat) (fun i => i ≤ kids.length ∧ ∀ j (h : j < kids.length), j < i → 2 ≤ kids[j] ∧ kids[j] ≤ 47) (fun i => kids.length - i) (0) [1, 73, 74] (fun i => [(75, .v false [i6 i])]) [none, none] ?_
        refine ⟨⟨by omega, by intros; omega⟩, ?_, fun i hi => ?_⟩
        · exact jw []
        · skip
          refine ⟨fun hlt => ?_, fun hge => ?_⟩
          · have hi2 : i < kids.length := by omega
            repeat' ((conv => whnf); (first | refine k0 ?_ | refine jA fun _ => ?_ | refine jB fun _ => ?_ | refine kC (fun _ => ?_) fun _ => ?_ | (apply cx99; refine kl tx99 ?_) | (apply cx100; refine kl tx100 ?_) | refine jst ?_ | exact ⟨rfl, rfl⟩ | exact jV | fail))
            all_goals first
              | exact ⟨by rw [nodOk_no (fun q => by have q2 := q.kid rfl i hi2; dsimp only at q2; (try simp only [inB_iff] at *); (try simp only [inB_no] at *); omega)], rfl⟩
              | (refine ⟨⟨i + 1, by omega, all_suc hi.2 hi2 (by (try simp only [inB_iff] at *); (try simp only [inB_no] at *); omega)⟩, by simp only; omega, ?_⟩
                 exact jw [])
          · obtain rfl : i = kids.length := by omega
            have hB : ∀ j (h : j < kids.length), 2 ≤ kids[j] ∧ kids[j] ≤ 47 := fun j h => hi.2 j h h
            clear hi
            repeat' ((conv => whnf); (first | refine k0 ?_ | refine jA fun _ => ?_ | refine jB fun _ => ?_ | refine kC (fun _ => ?_) fun _ => ?_ | (apply cx99; refine kl tx99 ?_) | (apply cx100; refine kl tx100 ?_) | refine jst ?_ | exact ⟨rfl, rfl⟩ | exact jV | fail))
            all_goals first
              | exact ⟨by rw [nodOk_no (fun q => by obtain ⟨q1, q2, q3⟩ := q.inner rfl; have q4 := q.size; have q5 := congrArg List.length q3; dsimp only at q1 q2 q4 q5; simp only [List.length_nil] at q5; omega)], rfl⟩
              | exact ⟨by rw [nodOk_yes ⟨hA, by omega, fun h => (ft h).elim, fun h => (ft h).elim, fun _ => hB, fun _ => ⟨by dsimp only; omega, by dsimp only; omega, List.length_eq_zero_iff.1 (by dsimp only; omega)⟩⟩], rfl⟩
  · repeat' ((conv => whnf); (first | refine k0 ?_ | refine jA fun _ => ?_ | refine jB fun _ => ?_ | refine kC (fun _ => ?_) fun _ => ?_ | (apply cx99; refine kl tx99 ?_) | (apply cx100; refine kl tx100 ?_) | refine jst ?_ | exact ⟨rfl, rfl⟩ | exact jV | fail))
    conv => whnf
    refine loopk (ι := Nat) (fun i => i ≤ keys.length ∧ ∀ j (h : j < keys.length), j < i → keys[j].size ≤ 48 ∧ (0 < j → Op.bytesLess keys[j - 1].toList keys[j].toList = true)) (fun i => keys.length - i) (0) [1, 10, 11] (fun i => [(12, .v false [i6 i])]) [none, none] ?_
    refine ⟨⟨by omega, by intros; omega⟩, ?_, fun i hi => ?_⟩
    · exact jw []
    · skip
      refine ⟨fun hlt => ?_, fun hge => ?_⟩
      · have hi2 : i < keys.length := by omega
        repeat' ((conv => whnf); (first | refine And.intro ⟨by omega, by omega⟩ (Exists.intro _ (And.intro (rdI (i := i - 1) (by omega) (by omega)) ?_)) | refine k0 ?_ | refine jA fun _ => ?_ | refine jB fun _ => ?_ | refine kC (fun _ => ?_) fun _ => ?_ | (apply cx99; refine kl tx99 ?_) | (apply cx100; refine kl tx100 ?_) | refine jst ?_ | exact ⟨rfl, rfl⟩ | exact jV | fail))
        all_goals first
          | exact ⟨by rw [nodOk_no (fun q => by have q2 := q.key i hi2; dsimp only at q2; first | omega | exact ngf ‹_› (q2.2 (by omega)))], rfl⟩
          | (refine ⟨⟨i + 1, by omega, all_suc hi.2 hi2 ⟨by omega, fun _ => by first | omega | exact ng ‹_›⟩⟩, by simp only; omega, ?_⟩
             exact jw [])
      · obtain rfl : i = keys.length := by omega
        have hA : ∀ j (h : j < keys.length), keys[j].size ≤ 48 ∧ (0 < j → Op.bytesLess keys[j - 1].toList keys[j].toList = true) := fun j h => hi.2 j h h
        clear hi
        repeat' ((conv => whnf); (first | refine k0 ?_ | refine jA fun _ => ?_ | refine jB fun _ => ?_ | refine kC (fun _ => ?_) fun _ => ?_ | (apply cx99; refine kl tx99 ?_) | (apply cx100; refine kl tx100 ?_) | refine jst ?_ | exact ⟨rfl, rfl⟩ | exact jV | fail))
        conv => whnf
        refine loopk (ι := Nat) (fun i => i ≤ vals.length ∧ ∀ j (h : j < vals.length), j < i → vals[j].size ≤ 60) (fun i => vals.length - i) (0) [1, 38, 39] (fun i => [(40, .v false [i6 i])]) [none, none] ?_
        refine ⟨⟨by omega, by intros; omega⟩, ?_, fun i hi => ?_⟩
        · exact jw []
        · skip
          refine ⟨fun hlt => ?_, fun hge => ?_⟩
          · have hi2 : i < vals.length := by omega
            repeat' ((conv => whnf); (first | refine k0 ?_ | refine jA fun _ => ?_ | refine jB fun _ => ?_ | refine kC (fun _ => ?_) fun _ => ?_ | (apply cx99; refine kl tx99 ?_) | (apply cx100; refine kl tx100 ?_) | refine jst ?_ | exact ⟨rfl, rfl⟩ | exact jV | fail))
            all_goals first
              | exact ⟨by rw [nodOk_no (fun q => by have q2 := q.val rfl i hi2; dsimp only at q2; omega)], rfl⟩
              | (refine ⟨⟨i + 1, by omega, all_suc hi.2 hi2 (by omega)⟩, by simp only; omega, ?_⟩
                 exact jw [])
          · obtain rfl : i = vals.length := by omega
            have hB : ∀ j (h : j < vals.length), vals[j].size ≤ 60 := fun j h => hi.2 j h h
            clear hi
            repeat' ((conv => whnf); (first | refine k0 ?_ | refine jA fun _ => ?_ | refine jB fun _ => ?_ | refine kC (fun _ => ?_) fun _ => ?_ | (apply cx99; refine kl tx99 ?_) | (apply cx100; refine kl tx100 ?_) | refine jst ?_ | exact ⟨rfl, rfl⟩ | exact jV | fail))
            all_goals first
              | exact ⟨by rw [nodOk_no (fun q => by obtain ⟨q1, q2, q3⟩ := q.leaf rfl; have q4 := q.size; have q5 := congrArg List.length q3; dsimp only at q1 q2 q4 q5; simp only [List.length_nil] at q5; omega)], rfl⟩
              | exact ⟨by rw [nodOk_yes ⟨hA, by omega, fun _ => hB, fun _ => ⟨by dsimp only; omega, by dsimp only; omega, List.length_eq_zero_iff.1 (by dsimp only; omega)⟩, fun h => (tf h).elim, fun h => (tf h).elim⟩], rfl⟩

theorem cx52 {P : Program} {X : FuncId → List Arg → List (Bool × List Cell) → List (Option (List Cell)) → Prop} {a : List Arg} {Q : List (Bool × List Cell) → List (Option (List Cell)) → Prop} (h : ∃ b vals outs, a = b ∧ D P X (.call 52 b vals outs) ∧ Q vals outs) : CallS P X 52 a Q := ⟨h⟩

set_option maxRecDepth 100000 in
theorem tx63 {x : Nod} (hx : zN x ≤ 2000000 := by first | assumption | omega | (simp; done) | (simp; omega)) : T 63 [.val true (nodC false x)] [vE (if nodOk x = true then bdN x else [])] [none] := by
  refine w_call md [[1]] Tryz.func63 rfl ?_
  repeat' ((conv => whnf); (first | refine k0 ?_ | refine jA fun _ => ?_ | refine jB fun _ => ?_ | refine kC (fun _ => ?_) fun _ => ?_ | (apply cx52; refine kl tx52 ?_) | (apply cx114; refine kl tx114 ?_) | refine jst ?_ | exact ⟨rfl, rfl⟩ | exact jV | fail))
  all_goals first | exact ⟨by rw [if_pos ‹_›], rfl⟩ | exact ⟨by rw [if_neg (by simp [*])]; rfl, rfl⟩

theorem cx63 {P : Program} {X : FuncId → List Arg → List (Bool × List Cell) → List (Option (List Cell)) → Prop} {a : List Arg} {Q : List (Bool × List Cell) → List (Option (List Cell)) → Prop} (h : ∃ b vals outs, a = b ∧ D P X (.call 63 b vals outs) ∧ Q vals outs) : CallS P X 63 a Q := ⟨h⟩

open Classical in
/-- Keys are right. -/
noncomputable def keyOk (keys : List ByteArray) : Bool := decide (∀ j (h : j < keys.length), keys[j].size ≤ 48 ∧ (0 < j → Op.bytesLess keys[j - 1].toList keys[j].toList = true))
theorem keyOk_iff {keys : List ByteArray} : keyOk keys = true ↔ ∀ j (h : j < keys.length), keys[j].size ≤ 48 ∧ (0 < j → Op.bytesLess keys[j - 1].toList keys[j].toList = true) := by unfold keyOk; simp only [decide_eq_true_eq]
theorem keyOk_no {keys : List ByteArray} (h : ¬ ∀ j (h : j < keys.length), keys[j].size ≤ 48 ∧ (0 < j → Op.bytesLess keys[j - 1].toList keys[j].toList = true)) : keyOk keys = false := by unfold keyOk; simp only [h, decide_false]
theorem keyOk_bad {keys : List ByteArray} (h : keyOk keys = false) : ¬ ∀ j (h : j < keys.length), keys[j].size ≤ 48 ∧ (0 < j → Op.bytesLess keys[j - 1].toList keys[j].toList = true) := fun q => by rw [keyOk_iff.2 q] at h; cases h

set_option maxRecDepth 100000 in
theorem tx137 {keys : List ByteArray} (hx : keys.length ≤ 2000000 := by first | assumption | omega | (simp; done) | (simp; omega)) : T 137 [aE keys] [vB (keyOk keys)] [none] := by
  refine w_call md [] Tryz.func137 rfl ?_
  repeat' ((conv => whnf); (first | refine k0 ?_ | refine jA fun _ => ?_ | refine jB fun _ => ?_ | refine kC (fun _ => ?_) fun _ => ?_ | refine jst ?_ | exact ⟨rfl, rfl⟩ | exact jV | fail))
  conv => whnf
  refine loopk (ι := Nat) (fun i => i ≤ keys.length ∧ ∀ j (h : j < keys.length), j < i → keys[j].size ≤ 48 ∧ (0 < j → Op.bytesLess keys[j - 1].toList keys[j].toList = true)) (fun i => keys.length - i) (0) [0] (fun i => [(3, .v false [i6 i])]) [none] ?_
  refine ⟨⟨by omega, by intros; omega⟩, ?_, fun i hi => ?_⟩
  · exact jw []
  · repeat' ((conv => whnf); (first | refine k0 ?_ | refine jst ?_ | exact ⟨rfl, rfl⟩ | exact jV | fail))
    conv => whnf
    refine ⟨fun hlt => ?_, fun hge => ?_⟩
    · have hi2 : i < keys.length := by omega
      repeat' ((conv => whnf); (first | refine And.intro ⟨by omega, by omega⟩ (Exists.intro _ (And.intro (rdI (i := i - 1) (by omega) (by omega)) ?_)) | refine k0 ?_ | refine jA fun _ => ?_ | refine jB fun _ => ?_ | refine kC (fun _ => ?_) fun _ => ?_ | refine jst ?_ | exact ⟨rfl, rfl⟩ | exact jV | fail))
      all_goals first
        | exact ⟨by rw [keyOk_no (fun q => by have q2 := q i hi2; first | omega | exact ngf ‹_› (q2.2 (by omega)))], rfl⟩
        | (refine ⟨⟨i + 1, by omega, all_suc hi.2 hi2 ⟨by omega, fun _ => by first | omega | exact ng ‹_›⟩⟩, by simp only; omega, ?_⟩
           exact jw [])
    · obtain rfl : i = keys.length := by omega
      repeat' ((conv => whnf); (first | refine k0 ?_ | refine jA fun _ => ?_ | refine jB fun _ => ?_ | refine kC (fun _ => ?_) fun _ => ?_ | refine jst ?_ | exact ⟨rfl, rfl⟩ | exact jV | fail))
      exact ⟨by rw [keyOk_iff.2 (fun j h => hi.2 j h h)], rfl⟩

theorem cx137 {P : Program} {X : FuncId → List Arg → List (Bool × List Cell) → List (Option (List Cell)) → Prop} {a : List Arg} {Q : List (Bool × List Cell) → List (Option (List Cell)) → Prop} (h : ∃ b vals outs, a = b ∧ D P X (.call 137 b vals outs) ∧ Q vals outs) : CallS P X 137 a Q := ⟨h⟩

set_option maxHeartbeats 2000000 in
set_option maxRecDepth 100000 in
theorem tx106 {x : Nod} (hx : zN x ≤ 2000000 := by first | assumption | omega | (simp; done) | (simp; omega)) : T 106 [.val true (nodC false x)] [vE (bdN x)] [none] := by
  obtain ⟨leaf, keys, vals, kids⟩ := x
  have hz : keys.length + cnt ByteArray.size keys + (vals.length + cnt ByteArray.size vals) + kids.length ≤ 2000000 := hx
  have hK := fmX_take keys
  have hV := fmX_take vals
  have hI := fmI_take kids
  have hu := uenc_len (clN_le keys.length)
  have hu0 := uenc_len (clN_le 0)
  have hu1 := uenc_len (clN_le 1)
  dsimp only [nodC]
  refine w_call md [] Tryz.func106 rfl ?_
  cases leaf
  · repeat' ((conv => whnf); (first | (apply cx105; refine kl (tx105 (bs := [])) ?_) | (apply cx105; refine kl (tx105 (bs := ptU [] 0)) ?_) | refine k0 ?_ | refine jA fun _ => ?_ | refine jB fun _ => ?_ | refine kC (fun _ => ?_) fun _ => ?_ | (apply cx105; refine kl tx105 ?_) | (apply cx104; refine kl tx104 ?_) | refine jst ?_ | exact ⟨rfl, rfl⟩ | exact jV | fail))
    have e0 : ptU (ptU [] 0) keys.length = hdN false keys.length := by rw [hdN_uenc]; rfl
    conv => whnf
    refine loopk (ι := Nat) (fun i => i ≤ keys.length) (fun i => keys.length - i) (0) [1] (fun i => [(4, rE 2 (hdN false keys.length ++ fm ptX (keys.take i))), (5, .v false [i6 i])]) [none, none, some fun i => nE (hdN false keys.length ++ fm ptX (keys.take i))] ?_
    refine ⟨by omega, ?_, fun i hi => ?_⟩
    · have e : ptU (ptU [] 0) keys.length = hdN false keys.length ++ fm ptX (keys.take 0) := e0.trans fm_0
      exact w_autoX [] (by (conv => whnf); exact And.intro (by kernel_rfl) (And.intro (by kernel_rfl) (by repeat' (first | (with_reducible exact rfl) | ((conv => whnf); first | exact trivial | exact ⟨rfl, clo_i, congrArg (cs true) e⟩ | exact tvr (congrArg List.length e) | exact rfl | exact tvi (by first | omega | (dsimp only; omega) | (simp; done)) | exact tvr (by first | omega | (dsimp only; omega) | (simp; done) | (simp; omega)) | exact ⟨rfl, clo_i, by first | rfl | rw [List.take_length] | assumption⟩ | refine And.intro ?_ ?_)))))
    · have hKi := hK i
      repeat' ((conv => whnf); (first | refine k0 ?_ | (apply cx105; refine kl tx105 ?_) | (apply cx104; refine kl tx104 ?_) | refine jst ?_ | exact ⟨rfl, rfl⟩ | exact jV | fail))
      conv => whnf
      refine ⟨fun hlt => ?_, fun hge => ?_⟩
      · have hi2 : i < keys.length := by omega
        have hc := cnt_ge (c := ByteArray.size) hi2
        repeat' ((conv => whnf); (first | refine k0 ?_ | refine jA fun _ => ?_ | refine jB fun _ => ?_ | refine kC (fun _ => ?_) fun _ => ?_ | (apply cx105; refine kl tx105 ?_) | (apply cx104; refine kl tx104 ?_) | refine jst ?_ | exact ⟨rfl, rfl⟩ | exact jV | fail))
        have e := pt_fm (H := hdN false keys.length) hi2
        refine ⟨⟨i + 1, by omega⟩, by simp only; omega, ?_⟩
        exact w_autoX [] (by (conv => whnf); exact And.intro (by kernel_rfl) (And.intro (by kernel_rfl) (by repeat' (first | (with_reducible exact rfl) | ((conv => whnf); first | exact trivial | exact ⟨rfl, clo_i, congrArg (cs true) e⟩ | exact tvr (congrArg List.length e) | exact rfl | exact tvi (by first | omega | (dsimp only; omega) | (simp; done)) | exact tvr (by first | omega | (dsimp only; omega) | (simp; done) | (simp; omega)) | exact ⟨rfl, clo_i, by first | rfl | rw [List.take_length] | assumption⟩ | refine And.intro ?_ ?_)))))
      · obtain rfl : i = keys.length := by omega
        repeat' ((conv => whnf); (first | refine k0 ?_ | refine jA fun _ => ?_ | refine jB fun _ => ?_ | refine kC (fun _ => ?_) fun _ => ?_ | (apply cx105; refine kl tx105 ?_) | (apply cx104; refine kl tx104 ?_) | refine jst ?_ | exact ⟨rfl, rfl⟩ | exact jV | fail))
        conv => whnf
        refine loopk (ι := Nat) (fun i => i = 0) (fun i => 0) (0) [1] (fun i => [(4, rE 2 (hdN false keys.length ++ fm ptX keys)), (6, .v false [i6 0])]) [none, none, some fun _ => nE (hdN false keys.length ++ fm ptX keys)] ?_
        refine ⟨rfl, ?_, fun i hi => ?_⟩
        · exact jw []
        · repeat' ((conv => whnf); (first | refine k0 ?_ | refine jA fun _ => ?_ | refine jB fun _ => ?_ | refine kC (fun _ => ?_) fun _ => ?_ | (apply cx105; refine kl tx105 ?_) | (apply cx104; refine kl tx104 ?_) | refine jst ?_ | exact ⟨rfl, rfl⟩ | exact jV | fail))
          all_goals
            conv => whnf
            refine loopk (ι := Nat) (fun i => i ≤ kids.length) (fun i => kids.length - i) (0) [1] (fun i => [(4, rE 2 ((hdN false keys.length ++ fm ptX keys) ++ fm ptI (kids.take i))), (7, .v false [i6 i])]) [none, none, some fun i => nE ((hdN false keys.length ++ fm ptX keys) ++ fm ptI (kids.take i))] ?_
            refine ⟨by omega, ?_, fun i hi => ?_⟩
            · have e : (hdN false keys.length ++ fm ptX keys) = (hdN false keys.length ++ fm ptX keys) ++ fm ptI (kids.take 0) := fm_0
              exact w_autoX [] (by (conv => whnf); exact And.intro (by kernel_rfl) (And.intro (by kernel_rfl) (by repeat' (first | (with_reducible exact rfl) | ((conv => whnf); first | exact trivial | exact ⟨rfl, clo_i, congrArg (cs true) e⟩ | exact tvr (congrArg List.length e) | exact rfl | exact tvi (by first | omega | (dsimp only; omega) | (simp; done)) | exact tvr (by first | omega | (dsimp only; omega) | (simp; done) | (simp; omega)) | exact ⟨rfl, clo_i, by first | rfl | rw [List.take_length] | assumption⟩ | refine And.intro ?_ ?_)))))
            · have hKi := hK keys.length
              rw [List.take_length] at hKi
              have hVi := hI i
              repeat' ((conv => whnf); (first | refine k0 ?_ | (apply cx105; refine kl tx105 ?_) | (apply cx104; refine kl tx104 ?_) | refine jst ?_ | exact ⟨rfl, rfl⟩ | exact jV | fail))
              conv => whnf
              refine ⟨fun hlt => ?_, fun hge => ?_⟩
              · have hi2 : i < kids.length := by omega
                repeat' ((conv => whnf); (first | refine k0 ?_ | refine jA fun _ => ?_ | refine jB fun _ => ?_ | refine kC (fun _ => ?_) fun _ => ?_ | (apply cx105; refine kl tx105 ?_) | (apply cx104; refine kl tx104 ?_) | refine jst ?_ | exact ⟨rfl, rfl⟩ | exact jV | fail))
                have e := pu_fm (H := (hdN false keys.length ++ fm ptX keys)) hi2
                refine ⟨⟨i + 1, by omega⟩, by simp only; omega, ?_⟩
                exact w_autoX [] (by (conv => whnf); exact And.intro (by kernel_rfl) (And.intro (by kernel_rfl) (by repeat' (first | (with_reducible exact rfl) | ((conv => whnf); first | exact trivial | exact ⟨rfl, clo_i, congrArg (cs true) e⟩ | exact tvr (congrArg List.length e) | exact rfl | exact tvi (by first | omega | (dsimp only; omega) | (simp; done)) | exact tvr (by first | omega | (dsimp only; omega) | (simp; done) | (simp; omega)) | exact ⟨rfl, clo_i, by first | rfl | rw [List.take_length] | assumption⟩ | refine And.intro ?_ ?_)))))
              · obtain rfl : i = kids.length := by omega
                repeat' ((conv => whnf); (first | refine k0 ?_ | refine jA fun _ => ?_ | refine jB fun _ => ?_ | refine kC (fun _ => ?_) fun _ => ?_ | (apply cx105; refine kl tx105 ?_) | (apply cx104; refine kl tx104 ?_) | refine jst ?_ | exact ⟨rfl, rfl⟩ | exact jV | fail))
                exact ⟨by rw [List.take_length, bdN]; rfl, rfl⟩
  · repeat' ((conv => whnf); (first | (apply cx105; refine kl (tx105 (bs := [])) ?_) | (apply cx105; refine kl (tx105 (bs := ptU [] 1)) ?_) | refine k0 ?_ | refine jA fun _ => ?_ | refine jB fun _ => ?_ | refine kC (fun _ => ?_) fun _ => ?_ | (apply cx105; refine kl tx105 ?_) | (apply cx104; refine kl tx104 ?_) | refine jst ?_ | exact ⟨rfl, rfl⟩ | exact jV | fail))
    have e0 : ptU (ptU [] 1) keys.length = hdN true keys.length := by rw [hdN_uenc]; rfl
    conv => whnf
    refine loopk (ι := Nat) (fun i => i ≤ keys.length) (fun i => keys.length - i) (0) [1] (fun i => [(4, rE 2 (hdN true keys.length ++ fm ptX (keys.take i))), (5, .v false [i6 i])]) [none, none, some fun i => nE (hdN true keys.length ++ fm ptX (keys.take i))] ?_
    refine ⟨by omega, ?_, fun i hi => ?_⟩
    · have e : ptU (ptU [] 1) keys.length = hdN true keys.length ++ fm ptX (keys.take 0) := e0.trans fm_0
      exact w_autoX [] (by (conv => whnf); exact And.intro (by kernel_rfl) (And.intro (by kernel_rfl) (by repeat' (first | (with_reducible exact rfl) | ((conv => whnf); first | exact trivial | exact ⟨rfl, clo_i, congrArg (cs true) e⟩ | exact tvr (congrArg List.length e) | exact rfl | exact tvi (by first | omega | (dsimp only; omega) | (simp; done)) | exact tvr (by first | omega | (dsimp only; omega) | (simp; done) | (simp; omega)) | exact ⟨rfl, clo_i, by first | rfl | rw [List.take_length] | assumption⟩ | refine And.intro ?_ ?_)))))
    · have hKi := hK i
      repeat' ((conv => whnf); (first | refine k0 ?_ | (apply cx105; refine kl tx105 ?_) | (apply cx104; refine kl tx104 ?_) | refine jst ?_ | exact ⟨rfl, rfl⟩ | exact jV | fail))
      conv => whnf
      refine ⟨fun hlt => ?_, fun hge => ?_⟩
      · have hi2 : i < keys.length := by omega
        have hc := cnt_ge (c := ByteArray.size) hi2
        repeat' ((conv => whnf); (first | refine k0 ?_ | refine jA fun _ => ?_ | refine jB fun _ => ?_ | refine kC (fun _ => ?_) fun _ => ?_ | (apply cx105; refine kl tx105 ?_) | (apply cx104; refine kl tx104 ?_) | refine jst ?_ | exact ⟨rfl, rfl⟩ | exact jV | fail))
        have e := pt_fm (H := hdN true keys.length) hi2
        refine ⟨⟨i + 1, by omega⟩, by simp only; omega, ?_⟩
        exact w_autoX [] (by (conv => whnf); exact And.intro (by kernel_rfl) (And.intro (by kernel_rfl) (by repeat' (first | (with_reducible exact rfl) | ((conv => whnf); first | exact trivial | exact ⟨rfl, clo_i, congrArg (cs true) e⟩ | exact tvr (congrArg List.length e) | exact rfl | exact tvi (by first | omega | (dsimp only; omega) | (simp; done)) | exact tvr (by first | omega | (dsimp only; omega) | (simp; done) | (simp; omega)) | exact ⟨rfl, clo_i, by first | rfl | rw [List.take_length] | assumption⟩ | refine And.intro ?_ ?_)))))
      · obtain rfl : i = keys.length := by omega
        repeat' ((conv => whnf); (first | refine k0 ?_ | refine jA fun _ => ?_ | refine jB fun _ => ?_ | refine kC (fun _ => ?_) fun _ => ?_ | (apply cx105; refine kl tx105 ?_) | (apply cx104; refine kl tx104 ?_) | refine jst ?_ | exact ⟨rfl, rfl⟩ | exact jV | fail))
        conv => whnf
        refine loopk (ι := Nat) (fun i => i ≤ vals.length) (fun i => vals.length - i) (0) [1] (fun i => [(4, rE 2 ((hdN true keys.length ++ fm ptX keys) ++ fm ptX (vals.take i))), (6, .v false [i6 i])]) [none, none, some fun i => nE ((hdN true keys.length ++ fm ptX keys) ++ fm ptX (vals.take i))] ?_
        refine ⟨by omega, ?_, fun i hi => ?_⟩
        · have e : hdN true keys.length ++ fm ptX (keys.take keys.length) = (hdN true keys.length ++ fm ptX keys) ++ fm ptX (vals.take 0) := by rw [List.take_length]; exact fm_0
          exact w_autoX [] (by (conv => whnf); exact And.intro (by kernel_rfl) (And.intro (by kernel_rfl) (by repeat' (first | (with_reducible exact rfl) | ((conv => whnf); first | exact trivial | exact ⟨rfl, clo_i, congrArg (cs true) e⟩ | exact tvr (congrArg List.length e) | exact rfl | exact tvi (by first | omega | (dsimp only; omega) | (simp; done)) | exact tvr (by first | omega | (dsimp only; omega) | (simp; done) | (simp; omega)) | exact ⟨rfl, clo_i, by first | rfl | rw [List.take_length] | assumption⟩ | refine And.intro ?_ ?_)))))
        · have hKi := hK keys.length
          rw [List.take_length] at hKi
          have hVi := hV i
          repeat' ((conv => whnf); (first | refine k0 ?_ | (apply cx105; refine kl tx105 ?_) | (apply cx104; refine kl tx104 ?_) | refine jst ?_ | exact ⟨rfl, rfl⟩ | exact jV | fail))
          conv => whnf
          refine ⟨fun hlt => ?_, fun hge => ?_⟩
          · have hi2 : i < vals.length := by omega
            have hc := cnt_ge (c := ByteArray.size) hi2
            repeat' ((conv => whnf); (first | refine k0 ?_ | refine jA fun _ => ?_ | refine jB fun _ => ?_ | refine kC (fun _ => ?_) fun _ => ?_ | (apply cx105; refine kl tx105 ?_) | (apply cx104; refine kl tx104 ?_) | refine jst ?_ | exact ⟨rfl, rfl⟩ | exact jV | fail))
            have e := pt_fm (H := (hdN true keys.length ++ fm ptX keys)) hi2
            refine ⟨⟨i + 1, by omega⟩, by simp only; omega, ?_⟩
            exact w_autoX [] (by (conv => whnf); exact And.intro (by kernel_rfl) (And.intro (by kernel_rfl) (by repeat' (first | (with_reducible exact rfl) | ((conv => whnf); first | exact trivial | exact ⟨rfl, clo_i, congrArg (cs true) e⟩ | exact tvr (congrArg List.length e) | exact rfl | exact tvi (by first | omega | (dsimp only; omega) | (simp; done)) | exact tvr (by first | omega | (dsimp only; omega) | (simp; done) | (simp; omega)) | exact ⟨rfl, clo_i, by first | rfl | rw [List.take_length] | assumption⟩ | refine And.intro ?_ ?_)))))
          · obtain rfl : i = vals.length := by omega
            repeat' ((conv => whnf); (first | refine k0 ?_ | refine jA fun _ => ?_ | refine jB fun _ => ?_ | refine kC (fun _ => ?_) fun _ => ?_ | (apply cx105; refine kl tx105 ?_) | (apply cx104; refine kl tx104 ?_) | refine jst ?_ | exact ⟨rfl, rfl⟩ | exact jV | fail))
            conv => whnf
            refine loopk (ι := Nat) (fun i => i = 0) (fun i => 0) (0) [1] (fun i => [(4, rE 2 ((hdN true keys.length ++ fm ptX keys) ++ fm ptX vals)), (7, .v false [i6 0])]) [none, none, some fun _ => nE ((hdN true keys.length ++ fm ptX keys) ++ fm ptX vals)] ?_
            refine ⟨rfl, ?_, fun i hi => ?_⟩
            · exact jw []
            · repeat' ((conv => whnf); (first | refine k0 ?_ | refine jA fun _ => ?_ | refine jB fun _ => ?_ | refine kC (fun _ => ?_) fun _ => ?_ | (apply cx105; refine kl tx105 ?_) | (apply cx104; refine kl tx104 ?_) | refine jst ?_ | exact ⟨rfl, rfl⟩ | exact jV | fail))
              all_goals exact ⟨by rw [bdN]; rfl, rfl⟩

theorem cx106 {P : Program} {X : FuncId → List Arg → List (Bool × List Cell) → List (Option (List Cell)) → Prop} {a : List Arg} {Q : List (Bool × List Cell) → List (Option (List Cell)) → Prop} (h : ∃ b vals outs, a = b ∧ D P X (.call 106 b vals outs) ∧ Q vals outs) : CallS P X 106 a Q := ⟨h⟩

set_option maxRecDepth 100000 in
theorem tx138 {x : Nod} (hx : zN x ≤ 2000000 := by first | assumption | omega | (simp; done) | (simp; omega)) : T 138 [.val true (nodC false x)] [vI (bdN x).length] [none] := by
  refine w_call md [] Tryz.func138 rfl ?_
  repeat' ((conv => whnf); (first | refine k0 ?_ | refine jA fun _ => ?_ | refine jB fun _ => ?_ | refine kC (fun _ => ?_) fun _ => ?_ | (apply cx106; refine kl tx106 ?_) | refine jst ?_ | exact ⟨rfl, rfl⟩ | exact jV | fail))

theorem cx138 {P : Program} {X : FuncId → List Arg → List (Bool × List Cell) → List (Option (List Cell)) → Prop} {a : List Arg} {Q : List (Bool × List Cell) → List (Option (List Cell)) → Prop} (h : ∃ b vals outs, a = b ∧ D P X (.call 138 b vals outs) ∧ Q vals outs) : CallS P X 138 a Q := ⟨h⟩

set_option maxHeartbeats 2000000 in
set_option maxRecDepth 100000 in
theorem tx94 {x : Nod} (hx : zN x ≤ 2000000 := by first | assumption | omega | (simp; done) | (simp; omega)) : T 94 [.val true (nodC false x)] [vB (nodOk x)] [none] := by
  obtain ⟨leaf, keys, vals, kids⟩ := x
  have hbl := bdN_len (x := ⟨leaf, keys, vals, kids⟩)
  have hz : keys.length + cnt ByteArray.size keys + (vals.length + cnt ByteArray.size vals) + kids.length ≤ 2000000 := hx
  dsimp only [nodC]
  refine w_call md [] Tryz.func94 rfl ?_
  cases leaf
  · repeat' ((conv => whnf); (first | refine k0 ?_ | refine jA fun _ => ?_ | refine jB fun _ => ?_ | refine kC (fun _ => ?_) fun _ => ?_ | (apply cx137; refine kl tx137 ?_) | (apply cx138; refine kl tx138 ?_) | (apply cx92; refine kl tx92 ?_) | refine jst ?_ | exact ⟨rfl, rfl⟩ | exact jV | fail))
    all_goals try exact ⟨by rw [nodOk_no (fun q => by have q4 := q.size; first | omega | exact keyOk_bad ‹_› q.key)], rfl⟩
    have hA := keyOk_iff.1 ‹keyOk keys = true›
    conv => whnf
    refine loopk (ι := Nat) (fun i => i ≤ kids.length ∧ ∀ j (h : j < kids.length), j < i → 2 ≤ kids[j] ∧ kids[j] ≤ 47) (fun i => kids.length - i) (0) [1] (fun i => [(4, .v false [i6 i])]) [none, none] ?_
    refine ⟨⟨by omega, by intros; omega⟩, ?_, fun i hi => ?_⟩
    · exact jw []
    · repeat' ((conv => whnf); (first | refine k0 ?_ | (apply cx137; refine kl tx137 ?_) | (apply cx138; refine kl tx138 ?_) | (apply cx92; refine kl tx92 ?_) | refine jst ?_ | exact ⟨rfl, rfl⟩ | exact jV | fail))
      conv => whnf
      refine ⟨fun hlt => ?_, fun hge => ?_⟩
      · have hi2 : i < kids.length := by omega
        repeat' ((conv => whnf); (first | refine k0 ?_ | refine jA fun _ => ?_ | refine jB fun _ => ?_ | refine kC (fun _ => ?_) fun _ => ?_ | (apply cx137; refine kl tx137 ?_) | (apply cx138; refine kl tx138 ?_) | (apply cx92; refine kl tx92 ?_) | refine jst ?_ | exact ⟨rfl, rfl⟩ | exact jV | fail))
        all_goals first
          | exact ⟨by rw [nodOk_no (fun q => by have q2 := q.kid rfl i hi2; dsimp only at q2; (try simp only [inB_iff] at *); (try simp only [inB_no] at *); omega)], rfl⟩
          | (refine ⟨⟨i + 1, by omega, all_suc hi.2 hi2 (by (try simp only [inB_iff] at *); (try simp only [inB_no] at *); omega)⟩, by simp only; omega, ?_⟩
             exact jw [])
      · obtain rfl : i = kids.length := by omega
        have hB : ∀ j (h : j < kids.length), 2 ≤ kids[j] ∧ kids[j] ≤ 47 := fun j h => hi.2 j h h
        clear hi
        repeat' ((conv => whnf); (first | refine k0 ?_ | refine jA fun _ => ?_ | refine jB fun _ => ?_ | refine kC (fun _ => ?_) fun _ => ?_ | (apply cx137; refine kl tx137 ?_) | (apply cx138; refine kl tx138 ?_) | (apply cx92; refine kl tx92 ?_) | refine jst ?_ | exact ⟨rfl, rfl⟩ | exact jV | fail))
        all_goals first
          | exact ⟨by rw [nodOk_no (fun q => by obtain ⟨q1, q2, q3⟩ := q.inner rfl; have q4 := q.size; have q5 := congrArg List.length q3; dsimp only at q1 q2 q4 q5; simp only [List.length_nil] at q5; omega)], rfl⟩
          | exact ⟨by rw [nodOk_yes ⟨hA, by omega, fun h => (ft h).elim, fun h => (ft h).elim, fun _ => hB, fun _ => ⟨by dsimp only; omega, by dsimp only; omega, List.length_eq_zero_iff.1 (by dsimp only; omega)⟩⟩], rfl⟩
  · repeat' ((conv => whnf); (first | refine k0 ?_ | refine jA fun _ => ?_ | refine jB fun _ => ?_ | refine kC (fun _ => ?_) fun _ => ?_ | (apply cx137; refine kl tx137 ?_) | (apply cx138; refine kl tx138 ?_) | (apply cx92; refine kl tx92 ?_) | refine jst ?_ | exact ⟨rfl, rfl⟩ | exact jV | fail))
    all_goals try exact ⟨by rw [nodOk_no (fun q => by have q4 := q.size; first | omega | exact keyOk_bad ‹_› q.key)], rfl⟩
    have hA := keyOk_iff.1 ‹keyOk keys = true›
    conv => whnf
    refine loopk (ι := Nat) (fun i => i ≤ vals.length ∧ ∀ j (h : j < vals.length), j < i → vals[j].size ≤ 60) (fun i => vals.length - i) (0) [1] (fun i => [(3, .v false [i6 i])]) [none, none] ?_
    refine ⟨⟨by omega, by intros; omega⟩, ?_, fun i hi => ?_⟩
    · exact jw []
    · repeat' ((conv => whnf); (first | refine k0 ?_ | (apply cx137; refine kl tx137 ?_) | (apply cx138; refine kl tx138 ?_) | (apply cx92; refine kl tx92 ?_) | refine jst ?_ | exact ⟨rfl, rfl⟩ | exact jV | fail))
      conv => whnf
      refine ⟨fun hlt => ?_, fun hge => ?_⟩
      · have hi2 : i < vals.length := by omega
        repeat' ((conv => whnf); (first | refine k0 ?_ | refine jA fun _ => ?_ | refine jB fun _ => ?_ | refine kC (fun _ => ?_) fun _ => ?_ | (apply cx137; refine kl tx137 ?_) | (apply cx138; refine kl tx138 ?_) | (apply cx92; refine kl tx92 ?_) | refine jst ?_ | exact ⟨rfl, rfl⟩ | exact jV | fail))
        all_goals first
          | exact ⟨by rw [nodOk_no (fun q => by have q2 := q.val rfl i hi2; dsimp only at q2; omega)], rfl⟩
          | (refine ⟨⟨i + 1, by omega, all_suc hi.2 hi2 (by omega)⟩, by simp only; omega, ?_⟩
             exact jw [])
      · obtain rfl : i = vals.length := by omega
        have hB : ∀ j (h : j < vals.length), vals[j].size ≤ 60 := fun j h => hi.2 j h h
        clear hi
        repeat' ((conv => whnf); (first | refine k0 ?_ | refine jA fun _ => ?_ | refine jB fun _ => ?_ | refine kC (fun _ => ?_) fun _ => ?_ | (apply cx137; refine kl tx137 ?_) | (apply cx138; refine kl tx138 ?_) | (apply cx92; refine kl tx92 ?_) | refine jst ?_ | exact ⟨rfl, rfl⟩ | exact jV | fail))
        all_goals first
          | exact ⟨by rw [nodOk_no (fun q => by obtain ⟨q1, q2, q3⟩ := q.leaf rfl; have q4 := q.size; have q5 := congrArg List.length q3; dsimp only at q1 q2 q4 q5; simp only [List.length_nil] at q5; omega)], rfl⟩
          | exact ⟨by rw [nodOk_yes ⟨hA, by omega, fun _ => hB, fun _ => ⟨by dsimp only; omega, by dsimp only; omega, List.length_eq_zero_iff.1 (by dsimp only; omega)⟩, fun h => (tf h).elim, fun h => (tf h).elim⟩], rfl⟩

theorem cx94 {P : Program} {X : FuncId → List Arg → List (Bool × List Cell) → List (Option (List Cell)) → Prop} {a : List Arg} {Q : List (Bool × List Cell) → List (Option (List Cell)) → Prop} (h : ∃ b vals outs, a = b ∧ D P X (.call 94 b vals outs) ∧ Q vals outs) : CallS P X 94 a Q := ⟨h⟩

end Go.Proofs.YtkggnekdjdnhiaaGreat
