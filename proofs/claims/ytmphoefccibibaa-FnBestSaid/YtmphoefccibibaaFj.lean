/- Functions of the program, each with what it gives back. -/
import Derived.Test.YtmphoefccibibaaKe
import Derived.Test.YtmphoefccibibaaChecked
import Derived.IntWalk
import Derived.Test.YtmphoefccibibaaFi
namespace Go.Proofs.Ytmphoefccibibaa
open Go Go.RowKit Go.IntWalk
open Enc (sz cs)
attribute [local irreducible] IntKind.wrap

attribute [local irreducible] gU gT gS gP gM ptP ptM ptS crcN rdS
theorem gM_out {d : Dsk} {n : Int} (h : (rdS d n).2 = false) : (gM (rdS d n).1).2 = false := by rw [rdS_bad h]; exact gM_nil

set_option maxHeartbeats 2000000 in
set_option maxRecDepth 100000 in
theorem tx6 {d : Dsk} (hd : zD d ≤ 2000000 := by first | assumption | omega | (simp; done) | (simp; omega)) : T 6 [.val true (dskC false d)] [(true, metC (bestM d).1), vB (bestM d).2] [none] := by
  refine w_call md [[], []] Try.func6 rfl ?_
  repeat' ((conv => whnf); (first | refine k0 ?_ | refine jA fun _ => ?_ | refine jB fun _ => ?_ | refine kC (fun _ => ?_) fun _ => ?_ | (apply cx7; refine kl tx7 ?_) | (apply cx8; refine kl tx8 ?_) | refine jst ?_ | exact ⟨rfl, rfl⟩ | exact jV | fail))
  conv => whnf
  refine loopk (ι := Nat × Met × Bool) (fun i => (i.1 = 0 ∧ i.2 = (⟨0, 0⟩, false)) ∨ (i.1 = 1 ∧ i.2 = bmS d (⟨0, 0⟩, false) 0) ∨ (i.1 = 2 ∧ i.2 = bestM d)) (fun i => 2 - i.1) ((0, ⟨0, 0⟩, false)) [1] (fun i => [(2, .v false [.ptr 2 0]), (4, .v false [.ptr 3 0]), (5, .v false [b1 i.2.2]), (11, .v false [i6 i.1])]) [none, none, none, some fun i => some (true, metC i.2.1)] ?_
  refine ⟨.inl ⟨rfl, rfl⟩, ?_, fun ⟨i, m, b⟩ hi => ?_⟩
  · exact jw []
  · dsimp only at hi ⊢
    have hl := rdS_len (d := d) (n := (i : Int))
    have hn : i = 2 → (m, b) = bestM d := fun h => by rcases hi with ⟨h1, h2⟩ | ⟨h1, h2⟩ | ⟨h1, h2⟩ <;> first | omega | exact h2
    have hs : i < 2 → ∀ q, bmS d (m, b) i = q → (i + 1 = 0 ∧ q = (⟨0, 0⟩, false)) ∨ (i + 1 = 1 ∧ q = bmS d (⟨0, 0⟩, false) 0) ∨ (i + 1 = 2 ∧ q = bestM d) := fun h q hq => by
      subst hq
      rcases hi with ⟨h1, h2⟩ | ⟨h1, h2⟩ | ⟨h1, h2⟩
      · subst h1; rw [h2]; exact .inr (.inl ⟨rfl, rfl⟩)
      · subst h1; rw [h2]; exact .inr (.inr ⟨rfl, rfl⟩)
      · omega
    have hle : i ≤ 2 := by omega
    cases b
    all_goals
      repeat' ((conv => whnf); (first | refine k0 ?_ | (apply cx7; refine kl tx7 ?_) | (apply cx8; refine kl tx8 ?_) | refine jst ?_ | exact ⟨rfl, rfl⟩ | exact jV | fail))
      conv => whnf
      refine ⟨fun hlt => ?_, fun hge => ?_⟩
      · dsimp only at hlt
        repeat' ((conv => whnf); (first | refine And.intro (by decide) (Exists.intro _ (And.intro rfl ?_)) | refine k0 ?_ | refine jA fun _ => ?_ | refine jB fun _ => ?_ | refine kC (fun _ => ?_) fun _ => ?_ | (apply cx7; refine kl tx7 ?_) | (apply cx8; refine kl tx8 ?_) | refine jst ?_ | exact ⟨rfl, rfl⟩ | exact jV | fail))
        all_goals first
          | (refine ⟨⟨(i + 1, (gM (rdS d i).1).1, true), hs (by omega) _ (bmS_yes ‹_› ‹_› (by first | exact .inl rfl | exact .inr ‹_›))⟩, by simp only; omega, ?_⟩
             exact jw [])
          | (refine ⟨⟨(i + 1, m, _), hs (by omega) _ (bmS_no (fun q => by first | exact absurd (q.1.symm.trans ‹(gM (rdS d i).1).2 = false›) (by decide) | exact absurd (q.1.symm.trans (gM_out ‹(rdS d i).2 = false›)) (by decide) | exact ‹¬ (_ = (i : Int))› q.2.1 | (rcases q.2.2 with h | h; cases h; exact ‹¬ (_ > _)› h)))⟩, by simp only; omega, ?_⟩
             exact jw [])
      · dsimp only at hge
        have h2 := hn (by omega)
        repeat' ((conv => whnf); (first | refine k0 ?_ | refine jA fun _ => ?_ | refine jB fun _ => ?_ | refine kC (fun _ => ?_) fun _ => ?_ | (apply cx7; refine kl tx7 ?_) | (apply cx8; refine kl tx8 ?_) | refine jst ?_ | exact ⟨rfl, rfl⟩ | exact jV | fail))
        exact ⟨by rw [← h2]; rfl, rfl⟩

theorem cx6 {P : Program} {X : FuncId → List Arg → List (Bool × List Cell) → List (Option (List Cell)) → Prop} {a : List Arg} {Q : List (Bool × List Cell) → List (Option (List Cell)) → Prop} (h : ∃ b vals outs, a = b ∧ D P X (.call 6 b vals outs) ∧ Q vals outs) : CallS P X 6 a Q := ⟨h⟩

set_option maxHeartbeats 2000000 in
set_option maxRecDepth 100000 in
theorem tx11 {d : Dsk} (hd : zD d ≤ 2000000 := by first | assumption | omega | (simp; done) | (simp; omega)) : T 11 [.val true (dskC false d)] [(true, metC (bestM d).1), vB (bestM d).2] [none] := by
  refine w_call md [[], []] Try.func11 rfl ?_
  repeat' ((conv => whnf); (first | refine k0 ?_ | refine jA fun _ => ?_ | refine jB fun _ => ?_ | refine kC (fun _ => ?_) fun _ => ?_ | (apply cx26; refine kl tx26 ?_) | (apply cx27; refine kl tx27 ?_) | refine jst ?_ | exact ⟨rfl, rfl⟩ | exact jV | fail))
  conv => whnf
  refine loopk (ι := Nat × Met × Bool) (fun i => (i.1 = 0 ∧ i.2 = (⟨0, 0⟩, false)) ∨ (i.1 = 1 ∧ i.2 = bmS d (⟨0, 0⟩, false) 0) ∨ (i.1 = 2 ∧ i.2 = bestM d)) (fun i => 2 - i.1) ((0, ⟨0, 0⟩, false)) [1] (fun i => [(2, .v false [.ptr 2 0]), (4, .v false [.ptr 3 0]), (5, .v false [b1 i.2.2]), (6, .v false [i6 i.1])]) [none, none, none, some fun i => some (true, metC i.2.1)] ?_
  refine ⟨.inl ⟨rfl, rfl⟩, ?_, fun ⟨i, m, b⟩ hi => ?_⟩
  · exact jw []
  · dsimp only at hi ⊢
    have hl := rdS_len (d := d) (n := (i : Int))
    have hn : i = 2 → (m, b) = bestM d := fun h => by rcases hi with ⟨h1, h2⟩ | ⟨h1, h2⟩ | ⟨h1, h2⟩ <;> first | omega | exact h2
    have hs : i < 2 → ∀ q, bmS d (m, b) i = q → (i + 1 = 0 ∧ q = (⟨0, 0⟩, false)) ∨ (i + 1 = 1 ∧ q = bmS d (⟨0, 0⟩, false) 0) ∨ (i + 1 = 2 ∧ q = bestM d) := fun h q hq => by
      subst hq
      rcases hi with ⟨h1, h2⟩ | ⟨h1, h2⟩ | ⟨h1, h2⟩
      · subst h1; rw [h2]; exact .inr (.inl ⟨rfl, rfl⟩)
      · subst h1; rw [h2]; exact .inr (.inr ⟨rfl, rfl⟩)
      · omega
    have hle : i ≤ 2 := by omega
    cases b
    all_goals
      repeat' ((conv => whnf); (first | refine k0 ?_ | (apply cx26; refine kl tx26 ?_) | (apply cx27; refine kl tx27 ?_) | refine jst ?_ | exact ⟨rfl, rfl⟩ | exact jV | fail))
      conv => whnf
      refine ⟨fun hlt => ?_, fun hge => ?_⟩
      · dsimp only at hlt
        repeat' ((conv => whnf); (first | refine And.intro (by decide) (Exists.intro _ (And.intro rfl ?_)) | refine k0 ?_ | refine jA fun _ => ?_ | refine jB fun _ => ?_ | refine kC (fun _ => ?_) fun _ => ?_ | (apply cx26; refine kl tx26 ?_) | (apply cx27; refine kl tx27 ?_) | refine jst ?_ | exact ⟨rfl, rfl⟩ | exact jV | fail))
        all_goals first
          | (refine ⟨⟨(i + 1, (gM (rdS d i).1).1, true), hs (by omega) _ (bmS_yes ‹_› ‹_› (by first | exact .inl rfl | exact .inr ‹_›))⟩, by simp only; omega, ?_⟩
             exact jw [])
          | (refine ⟨⟨(i + 1, m, _), hs (by omega) _ (bmS_no (fun q => by first | exact absurd (q.1.symm.trans ‹(gM (rdS d i).1).2 = false›) (by decide) | exact absurd (q.1.symm.trans (gM_out ‹(rdS d i).2 = false›)) (by decide) | exact ‹¬ (_ = (i : Int))› q.2.1 | (rcases q.2.2 with h | h; cases h; exact ‹¬ (_ > _)› h)))⟩, by simp only; omega, ?_⟩
             exact jw [])
      · dsimp only at hge
        have h2 := hn (by omega)
        repeat' ((conv => whnf); (first | refine k0 ?_ | refine jA fun _ => ?_ | refine jB fun _ => ?_ | refine kC (fun _ => ?_) fun _ => ?_ | (apply cx26; refine kl tx26 ?_) | (apply cx27; refine kl tx27 ?_) | refine jst ?_ | exact ⟨rfl, rfl⟩ | exact jV | fail))
        exact ⟨by rw [← h2]; rfl, rfl⟩

theorem cx11 {P : Program} {X : FuncId → List Arg → List (Bool × List Cell) → List (Option (List Cell)) → Prop} {a : List Arg} {Q : List (Bool × List Cell) → List (Option (List Cell)) → Prop} (h : ∃ b vals outs, a = b ∧ D P X (.call 11 b vals outs) ∧ Q vals outs) : CallS P X 11 a Q := ⟨h⟩

theorem rep_nils (q : Nat) : List.replicate q (Cell.sl true 0 1 []) = cs true (List.replicate q ([] : List UInt8)) := by
  show _ = (List.replicate q ([] : List UInt8)).map _
  rw [List.map_replicate]; rfl
theorem rep_snoc (q : Nat) : cs true (List.replicate q ([] : List UInt8)) ++ [slE true ([] : List UInt8)] ++ [] = cs true (List.replicate (q + 1) ([] : List UInt8)) := by
  rw [List.replicate_succ', Enc.app, List.append_nil]; rfl
theorem newD_rep {n : Nat} {l : List Fau} (h1 : 4 ≤ n) (h2 : n ≤ 48) (h3 : FauOk l) : newD (n : Int) [] l = ⟨List.replicate n [], [], 0, l, false⟩ := by
  rw [newD_yes ⟨by omega, by omega, h3⟩, Int.toNat_natCast, dskB, ← rep_suc (by omega)]
theorem dskC_rep (o : Bool) (q : Nat) (l : List Fau) : [Cell.sl o q 1 (cs o (List.replicate q ([] : List UInt8))), .sl o 0 2 [], i6 0, slE o l, b1 false] = dskC o ⟨List.replicate q [], [], 0, l, false⟩ := by
  show _ = [Cell.sl o (List.replicate q ([] : List UInt8)).length 1 (cs o (List.replicate q ([] : List UInt8))), .sl o 0 2 [], i6 0, slE o l, b1 false]
  rw [List.length_replicate]
theorem put_head {c x : Cell} : ∀ {l : List Cell}, put (c :: l) 0 [x] = some (x :: l)
  | [] => rfl
  | _ :: _ => rfl
theorem newD_out {n : Int} {b : List UInt8} {l : List Fau} (h : inB n 4 48 = false) : newD n b l = dsk0 := newD_no (fun q => by rw [inB_no] at h; omega)
theorem newD_bad {n : Int} {b : List UInt8} {l : List Fau} (h : ¬ FauOk l) : newD n b l = dsk0 := newD_no (fun q => h q.2.2)
theorem newD_ok {n : Nat} {l : List Fau} (h1 : 4 ≤ n) (h2 : n ≤ 48) : dskOk ⟨List.replicate n [], [], 0, l, false⟩ = true ↔ FauOk l := by
  rw [dskOk_iff, rep_suc (by omega)]
  exact dskB_ok h1 h2 (by simp)
theorem zD_rep (n : Nat) (l : List Fau) : zD ⟨List.replicate n [], [], 0, l, false⟩ = n + l.length := by
  have : ∀ m, cnt List.length (List.replicate m ([] : List UInt8)) = 0 := by
    intro m
    induction m with
    | zero => rfl
    | succ m ih => rw [List.replicate_succ]; simp [cnt, ih]
  simp [zD, zBS, zWS, cnt, this]

set_option maxRecDepth 100000 in
theorem tx25 {n : Int} {l : List Fau} (hl : l.length ≤ 1100000 := by first | assumption | omega | (simp; done) | (simp; omega)) : T 25 [aI n, aE l] [(true, dskC true (newD n [] l))] [none, none] := by
  by_cases hn : 4 ≤ n ∧ n ≤ 48
  · obtain ⟨q, rfl⟩ := Int.eq_ofNat_of_zero_le (show 0 ≤ n by omega)
    have hin : inB q 4 48 = true := inB_iff.2 hn
    have hq4 : 4 ≤ q := by omega
    have hq48 : q ≤ 48 := by omega
    have hz := zD_rep q l
    have hz2 : zD ⟨List.replicate q [], [], 0, l, false⟩ ≤ 2000000 := by omega
    have ho := newD_ok (l := l) hq4 hq48
    by_cases hf : FauOk l
    · have ho := ho.2 hf
      refine w_call md [[2]] Try.func25 rfl ?_
      repeat' ((conv => whnf); (first | refine Exists.intro _ (Exists.intro (cs true (_ : List Fau)) (And.intro rfl (And.intro ⟨bgb (by omega), bg1 (by omega)⟩ ?_))) | refine bstep (w_nils 19 1 q (hc := rep_nils q)) ?_ | (apply cx42; refine Exists.intro _ (Exists.intro _ (Exists.intro _ (And.intro (congrArg (fun c => [Arg.val true c]) (dskC_rep false q l)) (And.intro (tx42 (d := ⟨List.replicate q [], [], 0, l, false⟩)) ?_))))) | refine k0 ?_ | refine jA fun _ => ?_ | refine jB fun _ => ?_ | refine kC (fun _ => ?_) fun _ => ?_ | (apply cx19; refine kl tx19 ?_) | (apply cx42; refine kl tx42 ?_) | refine jst ?_ | exact ⟨rfl, rfl⟩ | exact jV | fail))
      exact ⟨by rw [newD_rep hq4 hq48 hf, ← dskC_rep]; rfl, rfl⟩
    · have ho : dskOk ⟨List.replicate q [], [], 0, l, false⟩ = false := by
        cases h : dskOk ⟨List.replicate q [], [], 0, l, false⟩ with
        | false => rfl
        | true => exact absurd (ho.1 h) hf
      refine w_call md [[1, 2, 3]] Try.func25 rfl ?_
      repeat' ((conv => whnf); (first | refine Exists.intro _ (Exists.intro (cs true (_ : List Fau)) (And.intro rfl (And.intro ⟨bgb (by omega), bg1 (by omega)⟩ ?_))) | refine bstep (w_nils 19 1 q (hc := rep_nils q)) ?_ | (apply cx42; refine Exists.intro _ (Exists.intro _ (Exists.intro _ (And.intro (congrArg (fun c => [Arg.val true c]) (dskC_rep false q l)) (And.intro (tx42 (d := ⟨List.replicate q [], [], 0, l, false⟩)) ?_))))) | refine k0 ?_ | refine jA fun _ => ?_ | refine jB fun _ => ?_ | refine kC (fun _ => ?_) fun _ => ?_ | (apply cx19; refine kl tx19 ?_) | (apply cx42; refine kl tx42 ?_) | refine jst ?_ | exact ⟨rfl, rfl⟩ | exact jV | fail))
      exact ⟨by rw [newD_bad hf]; rfl, rfl⟩
  · have hin : inB n 4 48 = false := inB_no.2 hn
    refine w_call md [[1, 2, 3]] Try.func25 rfl ?_
    repeat' ((conv => whnf); (first | refine k0 ?_ | refine jA fun _ => ?_ | refine jB fun _ => ?_ | refine kC (fun _ => ?_) fun _ => ?_ | (apply cx19; refine kl tx19 ?_) | (apply cx42; refine kl tx42 ?_) | refine jst ?_ | exact ⟨rfl, rfl⟩ | exact jV | fail))
    exact ⟨by rw [newD_out hin]; rfl, rfl⟩

theorem cx25 {P : Program} {X : FuncId → List Arg → List (Bool × List Cell) → List (Option (List Cell)) → Prop} {a : List Arg} {Q : List (Bool × List Cell) → List (Option (List Cell)) → Prop} (h : ∃ b vals outs, a = b ∧ D P X (.call 25 b vals outs) ∧ Q vals outs) : CallS P X 25 a Q := ⟨h⟩

set_option maxRecDepth 100000 in
theorem tx28 {n : Int} {l : List Fau} (hl : l.length ≤ 1100000 := by first | assumption | omega | (simp; done) | (simp; omega)) : T 28 [aI n, aE l] [(true, dskC true (newD n [] l))] [none, none] := by
  by_cases hn : 4 ≤ n ∧ n ≤ 48
  · obtain ⟨q, rfl⟩ := Int.eq_ofNat_of_zero_le (show 0 ≤ n by omega)
    have hin : inB q 4 48 = true := inB_iff.2 hn
    have hq4 : 4 ≤ q := by omega
    have hq48 : q ≤ 48 := by omega
    by_cases hf : FauOk l
    · have ho := fauOk_yes hf
      refine w_call md [[2]] Try.func28 rfl ?_
      repeat' ((conv => whnf); (first | refine Exists.intro _ (Exists.intro (cs true (_ : List Fau)) (And.intro rfl (And.intro ⟨Nat.le_refl _, bgb (by omega), bg (by omega)⟩ (Exists.intro _ (And.intro ape (Exists.intro _ (And.intro (Nat.zero_add _) ?_))))))) | refine k0 ?_ | refine jA fun _ => ?_ | refine jB fun _ => ?_ | refine kC (fun _ => ?_) fun _ => ?_ | (apply cx43; refine kl tx43 ?_) | (apply cx46; refine kl tx46 ?_) | refine jst ?_ | exact ⟨rfl, rfl⟩ | exact jV | fail))
      conv => whnf
      refine loopk (ι := Nat) (fun i => i ≤ q) (fun i => q - i) (0) [0, 4] (fun i => [(5, .v false [.ptr 3 0]), (6, .v false [i6 i])]) [none, none, none, some fun i => some (true, [.ref 5 0 i 1, .nil, i6 0, .ref 4 0 l.length 3, b1 false]), some fun _ => nE l, some fun i => some (true, cs true (List.replicate i ([] : List UInt8)))] ?_
      refine ⟨by omega, ?_, fun i hi => ?_⟩
      · exact (w_nilN 5 1 [] [.nil, i6 0, .ref 4 0 l.length 3, b1 false]).trans (jw [3])
      · repeat' ((conv => whnf); (first | refine k0 ?_ | (apply cx43; refine kl tx43 ?_) | (apply cx46; refine kl tx46 ?_) | refine jst ?_ | exact ⟨rfl, rfl⟩ | exact jV | fail))
        conv => whnf
        refine ⟨fun hlt => ?_, fun hge => ?_⟩
        · repeat' ((conv => whnf); (first | refine Exists.intro _ (Exists.intro _ (And.intro rfl (And.intro ⟨by simp <;> omega, bgb (by omega), bg (by omega)⟩ (apR (xs := List.replicate i ([] : List UInt8)) ?_)))) | refine k0 ?_ | refine jA fun _ => ?_ | refine jB fun _ => ?_ | refine kC (fun _ => ?_) fun _ => ?_ | (apply cx43; refine kl tx43 ?_) | (apply cx46; refine kl tx46 ?_) | refine jst ?_ | exact ⟨rfl, rfl⟩ | exact jV | fail))
          refine ⟨⟨i + 1, by omega⟩, by simp only; omega, (w_inE 8 6 (cs true (List.replicate i ([] : List UInt8))) ([] : List UInt8) [] 0 1 (rep_snoc i)).trans ?_⟩
          exact jw [3]
        · obtain rfl : i = q := by omega
          repeat' ((conv => whnf); (first | refine k0 ?_ | refine jA fun _ => ?_ | refine jB fun _ => ?_ | refine kC (fun _ => ?_) fun _ => ?_ | (apply cx43; refine kl tx43 ?_) | (apply cx46; refine kl tx46 ?_) | refine jst ?_ | exact ⟨rfl, rfl⟩ | exact jV | fail))
          exact ⟨by rw [newD_rep hq4 hq48 hf, ← dskC_rep]; rfl, rfl⟩
    · have ho := fauOk_no hf
      refine w_call md [[1, 2, 3]] Try.func28 rfl ?_
      repeat' ((conv => whnf); (first | refine k0 ?_ | refine jA fun _ => ?_ | refine jB fun _ => ?_ | refine kC (fun _ => ?_) fun _ => ?_ | (apply cx43; refine kl tx43 ?_) | (apply cx46; refine kl tx46 ?_) | refine jst ?_ | exact ⟨rfl, rfl⟩ | exact jV | fail))
      exact ⟨by rw [newD_bad hf]; rfl, rfl⟩
  · have hin : inB n 4 48 = false := inB_no.2 hn
    refine w_call md [[1, 2, 3]] Try.func28 rfl ?_
    repeat' ((conv => whnf); (first | refine k0 ?_ | refine jA fun _ => ?_ | refine jB fun _ => ?_ | refine kC (fun _ => ?_) fun _ => ?_ | (apply cx43; refine kl tx43 ?_) | (apply cx46; refine kl tx46 ?_) | refine jst ?_ | exact ⟨rfl, rfl⟩ | exact jV | fail))
    exact ⟨by rw [newD_out hin]; rfl, rfl⟩

theorem cx28 {P : Program} {X : FuncId → List Arg → List (Bool × List Cell) → List (Option (List Cell)) → Prop} {a : List Arg} {Q : List (Bool × List Cell) → List (Option (List Cell)) → Prop} (h : ∃ b vals outs, a = b ∧ D P X (.call 28 b vals outs) ∧ Q vals outs) : CallS P X 28 a Q := ⟨h⟩

set_option maxRecDepth 100000 in
theorem tx10 {n : Int} {l : List Fau} (hl : l.length ≤ 1100000 := by first | assumption | omega | (simp; done) | (simp; omega)) : T 10 [aI n, aE l] [(true, dskC true (fmtD n l))] [none, none] := by
  refine w_call md [[]] Try.func10 rfl ?_
  have hm := ptM_len ⟨0, 0⟩
  by_cases hn : 4 ≤ n ∧ n ≤ 48 ∧ FauOk l
  · have e2 : fmtD n l = dskB n.toNat (ptM ⟨0, 0⟩) l := newD_yes hn
    have hD : T 25 [aI n, aE l] [(true, dskC true (dskB n.toNat [] l))] [none, none] := by rw [← newD_yes hn]; exact tx25
    have hlen : 0 < (dskB n.toNat [] l).secs.length := by simp
    repeat' ((conv => whnf); (first | (apply cx25; refine kl (hD) ?_) | refine bstep (w_inE 3 55 [] (ptM ⟨0, 0⟩) (cs true (List.replicate (n.toNat - 1) ([] : List UInt8))) (ptM ⟨0, 0⟩).length 1 (show [] ++ [slE true (ptM ⟨0, 0⟩)] ++ cs true (List.replicate (n.toNat - 1) ([] : List UInt8)) = cs true (ptM ⟨0, 0⟩ :: List.replicate (n.toNat - 1) []) from rfl)) ?_ | refine Exists.intro _ (And.intro (put_head (l := cs true (List.replicate (n.toNat - 1) ([] : List UInt8)))) ?_) | (apply cx23; refine kl (tx23 (m := ⟨0, 0⟩)) ?_) | refine k0 ?_ | refine jA fun _ => ?_ | refine jB fun _ => ?_ | refine kC (fun _ => ?_) fun _ => ?_ | (apply cx25; refine kl tx25 ?_) | (apply cx23; refine kl tx23 ?_) | refine jst ?_ | exact ⟨rfl, rfl⟩ | exact jV | fail))
    all_goals exact ⟨by rw [e2]; rfl, rfl⟩
  · have e2 : fmtD n l = dsk0 := newD_no hn
    have hD : T 25 [aI n, aE l] [(true, dskC true dsk0)] [none, none] := by rw [← newD_no hn]; exact tx25
    have hlen : dsk0.secs.length = 0 := rfl
    repeat' ((conv => whnf); (first | (apply cx25; refine kl (hD) ?_) | refine k0 ?_ | refine jA fun _ => ?_ | refine jB fun _ => ?_ | refine kC (fun _ => ?_) fun _ => ?_ | (apply cx25; refine kl tx25 ?_) | (apply cx23; refine kl tx23 ?_) | refine jst ?_ | exact ⟨rfl, rfl⟩ | exact jV | fail))
    all_goals exact ⟨by rw [e2]; rfl, rfl⟩

theorem cx10 {P : Program} {X : FuncId → List Arg → List (Bool × List Cell) → List (Option (List Cell)) → Prop} {a : List Arg} {Q : List (Bool × List Cell) → List (Option (List Cell)) → Prop} (h : ∃ b vals outs, a = b ∧ D P X (.call 10 b vals outs) ∧ Q vals outs) : CallS P X 10 a Q := ⟨h⟩

set_option maxRecDepth 100000 in
theorem tx12 {n : Int} {l : List Fau} (hl : l.length ≤ 1100000 := by first | assumption | omega | (simp; done) | (simp; omega)) : T 12 [aI n, aE l] [(true, dskC true (fmtD n l))] [none, none] := by
  refine w_call md [[]] Try.func12 rfl ?_
  have hm := ptM_len ⟨0, 0⟩
  by_cases hn : 4 ≤ n ∧ n ≤ 48 ∧ FauOk l
  · have e2 : fmtD n l = dskB n.toNat (ptM ⟨0, 0⟩) l := newD_yes hn
    have hD : T 28 [aI n, aE l] [(true, dskC true (dskB n.toNat [] l))] [none, none] := by rw [← newD_yes hn]; exact tx28
    have hlen : 0 < (dskB n.toNat [] l).secs.length := by simp
    repeat' ((conv => whnf); (first | (apply cx28; refine kl (hD) ?_) | refine bstep (w_inE 3 55 [] (ptM ⟨0, 0⟩) (cs true (List.replicate (n.toNat - 1) ([] : List UInt8))) (ptM ⟨0, 0⟩).length 1 (show [] ++ [slE true (ptM ⟨0, 0⟩)] ++ cs true (List.replicate (n.toNat - 1) ([] : List UInt8)) = cs true (ptM ⟨0, 0⟩ :: List.replicate (n.toNat - 1) []) from rfl)) ?_ | refine Exists.intro _ (And.intro (put_head (l := cs true (List.replicate (n.toNat - 1) ([] : List UInt8)))) ?_) | (apply cx15; refine kl (tx15 (m := ⟨0, 0⟩)) ?_) | refine k0 ?_ | refine jA fun _ => ?_ | refine jB fun _ => ?_ | refine kC (fun _ => ?_) fun _ => ?_ | (apply cx28; refine kl tx28 ?_) | (apply cx15; refine kl tx15 ?_) | refine jst ?_ | exact ⟨rfl, rfl⟩ | exact jV | fail))
    all_goals exact ⟨by rw [e2]; rfl, rfl⟩
  · have e2 : fmtD n l = dsk0 := newD_no hn
    have hD : T 28 [aI n, aE l] [(true, dskC true dsk0)] [none, none] := by rw [← newD_no hn]; exact tx28
    have hlen : dsk0.secs.length = 0 := rfl
    repeat' ((conv => whnf); (first | (apply cx28; refine kl (hD) ?_) | refine k0 ?_ | refine jA fun _ => ?_ | refine jB fun _ => ?_ | refine kC (fun _ => ?_) fun _ => ?_ | (apply cx28; refine kl tx28 ?_) | (apply cx15; refine kl tx15 ?_) | refine jst ?_ | exact ⟨rfl, rfl⟩ | exact jV | fail))
    all_goals exact ⟨by rw [e2]; rfl, rfl⟩

theorem cx12 {P : Program} {X : FuncId → List Arg → List (Bool × List Cell) → List (Option (List Cell)) → Prop} {a : List Arg} {Q : List (Bool × List Cell) → List (Option (List Cell)) → Prop} (h : ∃ b vals outs, a = b ∧ D P X (.call 12 b vals outs) ∧ Q vals outs) : CallS P X 12 a Q := ⟨h⟩

end Go.Proofs.Ytmphoefccibibaa
