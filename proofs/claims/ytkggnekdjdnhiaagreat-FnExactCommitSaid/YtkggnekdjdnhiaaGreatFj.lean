/- Functions of the program, each with what it gives back. -/
import Derived.Test.YtkggnekdjdnhiaaGreatKe
import Derived.Test.YtkggnekdjdnhiaaGreatChecked
import Derived.IntWalk
import Derived.Test.YtkggnekdjdnhiaaGreatFi
namespace Go.Proofs.YtkggnekdjdnhiaaGreat
open Go Go.RowKit Go.IntWalk
open Enc (sz cs)
attribute [local irreducible] IntKind.wrap

attribute [local irreducible] gU gT gS gP gM ptP ptM ptS crcN rdS
theorem gM_out {d : Dsk} {n : Int} (h : (rdS d n).2 = false) : (gM (rdS d n).1).2 = false := by rw [rdS_bad h]; exact gM_nil

set_option maxHeartbeats 2000000 in
set_option maxRecDepth 100000 in
theorem tx50 {d : Dsk} (hd : zD d ≤ 2000000 := by first | assumption | omega | (simp; done) | (simp; omega)) : T 50 [.val true (dskC false d)] [(true, metC (bestM d).1), vB (bestM d).2] [none] := by
  refine w_call md [[], []] Tryz.func50 rfl ?_
  repeat' ((conv => whnf); (first | refine k0 ?_ | refine jA fun _ => ?_ | refine jB fun _ => ?_ | refine kC (fun _ => ?_) fun _ => ?_ | (apply cx96; refine kl tx96 ?_) | (apply cx97; refine kl tx97 ?_) | refine jst ?_ | exact ⟨rfl, rfl⟩ | exact jV | fail))
  conv => whnf
  refine loopk (ι := Nat × Met × Bool) (fun i => (i.1 = 0 ∧ i.2 = (⟨0, 0⟩, false)) ∨ (i.1 = 1 ∧ i.2 = bmS d (⟨0, 0⟩, false) 0) ∨ (i.1 = 2 ∧ i.2 = bestM d)) (fun i => 2 - i.1) ((0, ⟨0, 0⟩, false)) [1] (fun i => [(2, .v false [.ptr 2 0]), (4, .v false [.ptr 3 0]), (5, .v false [b1 i.2.2]), (11, .v false [i6 i.1])]) [none, none, none, some fun i => some (true, metC i.2.1)] ?_
  refine ⟨.inl ⟨rfl, rfl⟩, ?_, fun ⟨i, m, b⟩ hi => ?_⟩
  · exact jw []
  · dsimp only at hi ⊢
    have hl := rdS_len (d := d) (n := (i : Int))
    have hn : i = 2 → (m, b) = bestM d := fun h => by rcases hi with ⟨h1, h2⟩ | ⟨h1, h2⟩ | ⟨h1, h2⟩ <;> first | omega | exact h2
    have hs : i < 2 → ∀ q, bmS d (m, b) i = q → (i + 1 = 0 ∧ q = (⟨0, 0⟩, false)) ∨ (i + 1 = 1 ∧ q = bmS d (⟨0, 0⟩, false) 0) ∨ (i + 1 = 2 ∧ q = bestM d) := fun h q hq => by
      subst hq
      rcases hi with ⟨h1, h2⟩ | ⟨h1, h2⟩ | ⟨h1, h2⟩
      · subst h1; rw [h2]; exact .inr (.inl ⟨rfl, rfl⟩)
      · subst h1; rw [h2]; exact .inr (.inr ⟨rfl, rfl⟩)
      · omega
    have hle : i ≤ 2 := by omega
    cases b
    all_goals
      repeat' ((conv => whnf); (first | refine k0 ?_ | (apply cx96; refine kl tx96 ?_) | (apply cx97; refine kl tx97 ?_) | refine jst ?_ | exact ⟨rfl, rfl⟩ | exact jV | fail))
      conv => whnf
      refine ⟨fun hlt => ?_, fun hge => ?_⟩
      · dsimp only at hlt
        repeat' ((conv => whnf); (first | refine And.intro (by decide) (Exists.intro _ (And.intro rfl ?_)) | refine k0 ?_ | refine jA fun _ => ?_ | refine jB fun _ => ?_ | refine kC (fun _ => ?_) fun _ => ?_ | (apply cx96; refine kl tx96 ?_) | (apply cx97; refine kl tx97 ?_) | refine jst ?_ | exact ⟨rfl, rfl⟩ | exact jV | fail))
        all_goals first
          | (refine ⟨⟨(i + 1, (gM (rdS d i).1).1, true), hs (by omega) _ (bmS_yes ‹_› ‹_› (by first | exact .inl rfl | exact .inr ‹_›))⟩, by simp only; omega, ?_⟩
             exact jw [])
          | (refine ⟨⟨(i + 1, m, _), hs (by omega) _ (bmS_no (fun q => by first | exact absurd (q.1.symm.trans ‹(gM (rdS d i).1).2 = false›) (by decide) | exact absurd (q.1.symm.trans (gM_out ‹(rdS d i).2 = false›)) (by decide) | exact ‹¬ (_ = (i : Int))› q.2.1 | (rcases q.2.2 with h | h; cases h; exact ‹¬ (_ > _)› h)))⟩, by simp only; omega, ?_⟩
             exact jw [])
      · dsimp only at hge
        have h2 := hn (by omega)
        repeat' ((conv => whnf); (first | refine k0 ?_ | refine jA fun _ => ?_ | refine jB fun _ => ?_ | refine kC (fun _ => ?_) fun _ => ?_ | (apply cx96; refine kl tx96 ?_) | (apply cx97; refine kl tx97 ?_) | refine jst ?_ | exact ⟨rfl, rfl⟩ | exact jV | fail))
        exact ⟨by rw [← h2]; rfl, rfl⟩

theorem cx50 {P : Program} {X : FuncId → List Arg → List (Bool × List Cell) → List (Option (List Cell)) → Prop} {a : List Arg} {Q : List (Bool × List Cell) → List (Option (List Cell)) → Prop} (h : ∃ b vals outs, a = b ∧ D P X (.call 50 b vals outs) ∧ Q vals outs) : CallS P X 50 a Q := ⟨h⟩

set_option maxHeartbeats 2000000 in
set_option maxRecDepth 100000 in
theorem tx46 {d : Dsk} (hd : zD d ≤ 2000000 := by first | assumption | omega | (simp; done) | (simp; omega)) : T 46 [.val true (dskC false d)] [(true, metC (bestM d).1), vB (bestM d).2] [none] := by
  refine w_call md [[], []] Tryz.func46 rfl ?_
  repeat' ((conv => whnf); (first | refine k0 ?_ | refine jA fun _ => ?_ | refine jB fun _ => ?_ | refine kC (fun _ => ?_) fun _ => ?_ | (apply cx90; refine kl tx90 ?_) | (apply cx91; refine kl tx91 ?_) | refine jst ?_ | exact ⟨rfl, rfl⟩ | exact jV | fail))
  conv => whnf
  refine loopk (ι := Nat × Met × Bool) (fun i => (i.1 = 0 ∧ i.2 = (⟨0, 0⟩, false)) ∨ (i.1 = 1 ∧ i.2 = bmS d (⟨0, 0⟩, false) 0) ∨ (i.1 = 2 ∧ i.2 = bestM d)) (fun i => 2 - i.1) ((0, ⟨0, 0⟩, false)) [1] (fun i => [(2, .v false [.ptr 2 0]), (4, .v false [.ptr 3 0]), (5, .v false [b1 i.2.2]), (6, .v false [i6 i.1])]) [none, none, none, some fun i => some (true, metC i.2.1)] ?_
  refine ⟨.inl ⟨rfl, rfl⟩, ?_, fun ⟨i, m, b⟩ hi => ?_⟩
  · exact jw []
  · dsimp only at hi ⊢
    have hl := rdS_len (d := d) (n := (i : Int))
    have hn : i = 2 → (m, b) = bestM d := fun h => by rcases hi with ⟨h1, h2⟩ | ⟨h1, h2⟩ | ⟨h1, h2⟩ <;> first | omega | exact h2
    have hs : i < 2 → ∀ q, bmS d (m, b) i = q → (i + 1 = 0 ∧ q = (⟨0, 0⟩, false)) ∨ (i + 1 = 1 ∧ q = bmS d (⟨0, 0⟩, false) 0) ∨ (i + 1 = 2 ∧ q = bestM d) := fun h q hq => by
      subst hq
      rcases hi with ⟨h1, h2⟩ | ⟨h1, h2⟩ | ⟨h1, h2⟩
      · subst h1; rw [h2]; exact .inr (.inl ⟨rfl, rfl⟩)
      · subst h1; rw [h2]; exact .inr (.inr ⟨rfl, rfl⟩)
      · omega
    have hle : i ≤ 2 := by omega
    cases b
    all_goals
      repeat' ((conv => whnf); (first | refine k0 ?_ | (apply cx90; refine kl tx90 ?_) | (apply cx91; refine kl tx91 ?_) | refine jst ?_ | exact ⟨rfl, rfl⟩ | exact jV | fail))
      conv => whnf
      refine ⟨fun hlt => ?_, fun hge => ?_⟩
      · dsimp only at hlt
        repeat' ((conv => whnf); (first | refine And.intro (by decide) (Exists.intro _ (And.intro rfl ?_)) | refine k0 ?_ | refine jA fun _ => ?_ | refine jB fun _ => ?_ | refine kC (fun _ => ?_) fun _ => ?_ | (apply cx90; refine kl tx90 ?_) | (apply cx91; refine kl tx91 ?_) | refine jst ?_ | exact ⟨rfl, rfl⟩ | exact jV | fail))
        all_goals first
          | (refine ⟨⟨(i + 1, (gM (rdS d i).1).1, true), hs (by omega) _ (bmS_yes ‹_› ‹_› (by first | exact .inl rfl | exact .inr ‹_›))⟩, by simp only; omega, ?_⟩
             exact jw [])
          | (refine ⟨⟨(i + 1, m, _), hs (by omega) _ (bmS_no (fun q => by first | exact absurd (q.1.symm.trans ‹(gM (rdS d i).1).2 = false›) (by decide) | exact absurd (q.1.symm.trans (gM_out ‹(rdS d i).2 = false›)) (by decide) | exact ‹¬ (_ = (i : Int))› q.2.1 | (rcases q.2.2 with h | h; cases h; exact ‹¬ (_ > _)› h)))⟩, by simp only; omega, ?_⟩
             exact jw [])
      · dsimp only at hge
        have h2 := hn (by omega)
        repeat' ((conv => whnf); (first | refine k0 ?_ | refine jA fun _ => ?_ | refine jB fun _ => ?_ | refine kC (fun _ => ?_) fun _ => ?_ | (apply cx90; refine kl tx90 ?_) | (apply cx91; refine kl tx91 ?_) | refine jst ?_ | exact ⟨rfl, rfl⟩ | exact jV | fail))
        exact ⟨by rw [← h2]; rfl, rfl⟩

theorem cx46 {P : Program} {X : FuncId → List Arg → List (Bool × List Cell) → List (Option (List Cell)) → Prop} {a : List Arg} {Q : List (Bool × List Cell) → List (Option (List Cell)) → Prop} (h : ∃ b vals outs, a = b ∧ D P X (.call 46 b vals outs) ∧ Q vals outs) : CallS P X 46 a Q := ⟨h⟩

theorem rep_nils (q : Nat) : List.replicate q (Cell.sl true 0 1 []) = cs true (List.replicate q ([] : List UInt8)) := by
  show _ = (List.replicate q ([] : List UInt8)).map _
  rw [List.map_replicate]; rfl
theorem rep_snoc (q : Nat) : cs true (List.replicate q ([] : List UInt8)) ++ [slE true ([] : List UInt8)] ++ [] = cs true (List.replicate (q + 1) ([] : List UInt8)) := by
  rw [List.replicate_succ', Enc.app, List.append_nil]; rfl
theorem newD_rep {n : Nat} {l : List Fau} (h1 : 4 ≤ n) (h2 : n ≤ 48) (h3 : FauOk l) : newD (n : Int) [] l = ⟨List.replicate n [], [], 0, l, false⟩ := by
  rw [newD_yes ⟨by omega, by omega, h3⟩, Int.toNat_natCast, dskB, ← rep_suc (by omega)]
theorem dskC_rep (o : Bool) (q : Nat) (l : List Fau) : [Cell.sl o q 1 (cs o (List.replicate q ([] : List UInt8))), .sl o 0 2 [], i6 0, slE o l, b1 false] = dskC o ⟨List.replicate q [], [], 0, l, false⟩ := by
  show _ = [Cell.sl o (List.replicate q ([] : List UInt8)).length 1 (cs o (List.replicate q ([] : List UInt8))), .sl o 0 2 [], i6 0, slE o l, b1 false]
  rw [List.length_replicate]
theorem put_head {c x : Cell} : ∀ {l : List Cell}, put (c :: l) 0 [x] = some (x :: l)
  | [] => rfl
  | _ :: _ => rfl
theorem newD_out {n : Int} {b : List UInt8} {l : List Fau} (h : inB n 4 48 = false) : newD n b l = dsk0 := newD_no (fun q => by rw [inB_no] at h; omega)
theorem newD_bad {n : Int} {b : List UInt8} {l : List Fau} (h : ¬ FauOk l) : newD n b l = dsk0 := newD_no (fun q => h q.2.2)
theorem newD_ok {n : Nat} {l : List Fau} (h1 : 4 ≤ n) (h2 : n ≤ 48) : dskOk ⟨List.replicate n [], [], 0, l, false⟩ = true ↔ FauOk l := by
  rw [dskOk_iff, rep_suc (by omega)]
  exact dskB_ok h1 h2 (by simp)
theorem zD_rep (n : Nat) (l : List Fau) : zD ⟨List.replicate n [], [], 0, l, false⟩ = n + l.length := by
  have : ∀ m, cnt List.length (List.replicate m ([] : List UInt8)) = 0 := by
    intro m
    induction m with
    | zero => rfl
    | succ m ih => rw [List.replicate_succ]; simp [cnt, ih]
  simp [zD, zBS, zWS, cnt, this]

end Go.Proofs.YtkggnekdjdnhiaaGreat
