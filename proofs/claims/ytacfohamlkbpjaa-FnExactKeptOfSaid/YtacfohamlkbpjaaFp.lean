/- Functions of the program, each with what it gives back. -/
import Derived.Test.YtacfohamlkbpjaaKe
import Derived.Test.YtacfohamlkbpjaaChecked
import Derived.IntWalk
import Derived.Test.YtacfohamlkbpjaaFo
namespace Go.Proofs.Ytacfohamlkbpjaa
open Go Go.RowKit Go.IntWalk
open Enc (sz cs)
attribute [local irreducible] IntKind.wrap

attribute [local irreducible] gU gT gS gP gM ptP ptM ptS crcN rdS bdN gN pgA ndA
/-- How deep it goes from a sector on, `f` nodes at most. -/
noncomputable def dpF (t : Txn) : Nat → Int → Nat
  | 0, _ => 0
  | f + 1, n => if n = 0 ∨ (ndA t n).2 = false then 0 else match (ndA t n).1.kids with
    | [] => 1
    | k :: _ => 1 + dpF t f k
theorem dpF_end {t : Txn} {f : Nat} {n : Int} (h : n = 0 ∨ (ndA t n).2 = false) : dpF t f n = 0 := by
  cases f with
  | zero => rfl
  | succ f => rw [dpF, if_pos h]
theorem dpF_leaf {t : Txn} {f : Nat} {n : Int} (h : n ≠ 0) (h1 : (ndA t n).2 = true) (h2 : (ndA t n).1.kids.length = 0) : dpF t (f + 1) n = 1 := by
  rw [dpF, if_neg (by rw [h1]; simp [h]), List.length_eq_zero_iff.1 h2]
theorem dpF_go {t : Txn} {f : Nat} {n : Int} (h : n ≠ 0) (h1 : (ndA t n).2 = true) (h2 : 0 < (ndA t n).1.kids.length) : dpF t (f + 1) n = 1 + dpF t f (ndA t n).1.kids[0] := by
  rw [dpF, if_neg (by rw [h1]; simp [h])]
  split
  · rename_i e; simp [e] at h2
  · rename_i k l e; simp [e]

set_option maxRecDepth 100000 in
theorem tx62 {t : Txn} (ht : zT t ≤ 2000000 := by first | assumption | omega | (simp; done) | (simp; omega)) : T 62 [.val true (txnC false t)] [vI (dpF t 48 t.root)] [none] := by
  refine w_call md [] Try.func62 rfl ?_
  repeat' ((conv => whnf); (first | refine k0 ?_ | refine jA fun _ => ?_ | refine jB fun _ => ?_ | refine kC (fun _ => ?_) fun _ => ?_ | refine jS ?_ | refine jI ?_ | (apply cx57; refine kl tx57 ?_) | refine jD ?_ | refine ⟨snc, _, snr, ?_⟩ | refine ⟨⟨Nat.le_refl _, rfl⟩, [], rfl, ?_⟩ | refine And.intro ⟨rfl, rfl, by decide, rfl⟩ ?_ | refine jP ?_ | refine jO ?_ | refine jX ?_ | refine jb jr ?_ | refine jb ofs ?_ | refine ko jc ?_ | refine ko jp ?_ | refine jM ?_ | refine kr ?_ | refine ko rfl ?_ | refine And.intro (cs_shal _) ?_ | refine And.intro (rfl : List.all _ _ = true) ?_ | refine And.intro ⟨rfl, (rfl : List.all _ _ = true)⟩ ?_ | exact ⟨rfl, rfl⟩ | exact jV | fail))
  conv => whnf
  refine loopk (ι := Nat × Int) (fun i => i.1 ≤ 48 ∧ i.1 + dpF t (48 - i.1) i.2 = dpF t 48 t.root) (fun i => 48 - i.1) ((0, t.root)) [1] (fun i => [(3, .v false [i6 i.2]), (4, .v false [i6 i.1])]) [none, none] ?_
  refine ⟨⟨by omega, by simp⟩, ?_, fun ⟨i, n⟩ hi => ?_⟩
  · exact jw []
  · dsimp only at hi ⊢
    obtain ⟨h1, h2⟩ := hi
    repeat' ((conv => whnf); (first | refine kb ⟨by omega, by omega⟩ (show 0 + ((0 : Int)).toNat * 1 = 0 * 1 from rfl) ?_ | refine ko (ct0 (i := 0) (by omega)) ?_ | refine k0 ?_ | refine jA fun _ => ?_ | refine jB fun _ => ?_ | refine kC (fun _ => ?_) fun _ => ?_ | refine jS ?_ | refine jI ?_ | (apply cx57; refine kl tx57 ?_) | refine jD ?_ | refine ⟨snc, _, snr, ?_⟩ | refine ⟨⟨Nat.le_refl _, rfl⟩, [], rfl, ?_⟩ | refine And.intro ⟨rfl, rfl, by decide, rfl⟩ ?_ | refine jP ?_ | refine jO ?_ | refine jX ?_ | refine jb jr ?_ | refine jb ofs ?_ | refine ko jc ?_ | refine ko jp ?_ | refine jM ?_ | refine kr ?_ | refine ko rfl ?_ | refine And.intro (cs_shal _) ?_ | refine And.intro (rfl : List.all _ _ = true) ?_ | refine And.intro ⟨rfl, (rfl : List.all _ _ = true)⟩ ?_ | exact ⟨rfl, rfl⟩ | exact jV | fail))
    all_goals try dsimp only at *
    all_goals first
      | exact ⟨vIe (by rw [← h2, show 48 - i = (47 - i) + 1 by omega, dpF_leaf ‹n ≠ 0› ‹_› (by omega)] <;> rfl), rfl⟩
      | exact ⟨vIe (by rw [← h2, dpF_end (.inr ‹(ndA t n).2 = false›)] <;> rfl), rfl⟩
      | exact ⟨vIe (by rw [← h2, dpF_end (.inl (by omega))] <;> rfl), rfl⟩
      | exact ⟨vIe (by rw [← h2, show 48 - i = 0 by omega, show dpF t 0 n = 0 from rfl]; omega), rfl⟩
      | (have hk : 0 < (ndA t n).1.kids.length := Nat.pos_of_ne_zero (fun q => ‹¬ (((ndA t n).1.kids.length : Nat) : Int) = 0› (by rw [q]; rfl))
         have e := dpF_go (f := 47 - i) ‹n ≠ 0› ‹(ndA t n).2 = true› hk
         refine ⟨⟨(i + 1, (ndA t n).1.kids[0]), by omega, by dsimp only; rw [← h2, show 48 - i = (47 - i) + 1 by omega, e, show 48 - (i + 1) = 47 - i by omega]; omega⟩, by simp only; omega, ?_⟩
         exact jw [])

theorem cx62 {P : Program} {X : FuncId → List Arg → List (Bool × List Cell) → List (Option (List Cell)) → Prop} {a : List Arg} {Q : List (Bool × List Cell) → List (Option (List Cell)) → Prop} (h : ∃ b vals outs, a = b ∧ D P X (.call 62 b vals outs) ∧ Q vals outs) : CallS P X 62 a Q := ⟨h⟩

set_option maxRecDepth 100000 in
theorem tx61 {t : Txn} (ht : zT t ≤ 2000000 := by first | assumption | omega | (simp; done) | (simp; omega)) : T 61 [.val true (txnC false t)] [vI (dpF t 48 t.root)] [none] := by
  refine w_call md [] Try.func61 rfl ?_
  repeat' ((conv => whnf); (first | refine k0 ?_ | refine jA fun _ => ?_ | refine jB fun _ => ?_ | refine kC (fun _ => ?_) fun _ => ?_ | refine jS ?_ | refine jI ?_ | (apply cx55; refine kl tx55 ?_) | refine jD ?_ | refine ⟨snc, _, snr, ?_⟩ | refine ⟨⟨Nat.le_refl _, rfl⟩, [], rfl, ?_⟩ | refine And.intro ⟨rfl, rfl, by decide, rfl⟩ ?_ | refine jP ?_ | refine jO ?_ | refine jX ?_ | refine jb jr ?_ | refine jb ofs ?_ | refine ko jc ?_ | refine ko jp ?_ | refine jM ?_ | refine kr ?_ | refine ko rfl ?_ | refine And.intro (cs_shal _) ?_ | refine And.intro (rfl : List.all _ _ = true) ?_ | refine And.intro ⟨rfl, (rfl : List.all _ _ = true)⟩ ?_ | exact ⟨rfl, rfl⟩ | exact jV | fail))
  conv => whnf
  refine loopk (ι := Nat × Int) (fun i => i.1 ≤ 48 ∧ i.1 + dpF t (48 - i.1) i.2 = dpF t 48 t.root) (fun i => 48 - i.1) ((0, t.root)) [1] (fun i => [(3, .v false [i6 i.2]), (4, .v false [i6 i.1])]) [none, none] ?_
  refine ⟨⟨by omega, by simp⟩, ?_, fun ⟨i, n⟩ hi => ?_⟩
  · exact jw []
  · dsimp only at hi ⊢
    obtain ⟨h1, h2⟩ := hi
    repeat' ((conv => whnf); (first | refine kb ⟨by omega, by omega⟩ (show 0 + ((0 : Int)).toNat * 1 = 0 * 1 from rfl) ?_ | refine ko (ct0 (i := 0) (by omega)) ?_ | refine k0 ?_ | refine jA fun _ => ?_ | refine jB fun _ => ?_ | refine kC (fun _ => ?_) fun _ => ?_ | refine jS ?_ | refine jI ?_ | (apply cx55; refine kl tx55 ?_) | refine jD ?_ | refine ⟨snc, _, snr, ?_⟩ | refine ⟨⟨Nat.le_refl _, rfl⟩, [], rfl, ?_⟩ | refine And.intro ⟨rfl, rfl, by decide, rfl⟩ ?_ | refine jP ?_ | refine jO ?_ | refine jX ?_ | refine jb jr ?_ | refine jb ofs ?_ | refine ko jc ?_ | refine ko jp ?_ | refine jM ?_ | refine kr ?_ | refine ko rfl ?_ | refine And.intro (cs_shal _) ?_ | refine And.intro (rfl : List.all _ _ = true) ?_ | refine And.intro ⟨rfl, (rfl : List.all _ _ = true)⟩ ?_ | exact ⟨rfl, rfl⟩ | exact jV | fail))
    all_goals try dsimp only at *
    all_goals first
      | exact ⟨vIe (by rw [← h2, show 48 - i = (47 - i) + 1 by omega, dpF_leaf ‹n ≠ 0› ‹_› (by omega)] <;> rfl), rfl⟩
      | exact ⟨vIe (by rw [← h2, dpF_end (.inr ‹(ndA t n).2 = false›)] <;> rfl), rfl⟩
      | exact ⟨vIe (by rw [← h2, dpF_end (.inl (by omega))] <;> rfl), rfl⟩
      | exact ⟨vIe (by rw [← h2, show 48 - i = 0 by omega, show dpF t 0 n = 0 from rfl]; omega), rfl⟩
      | (have hk : 0 < (ndA t n).1.kids.length := Nat.pos_of_ne_zero (fun q => ‹¬ (((ndA t n).1.kids.length : Nat) : Int) = 0› (by rw [q]; rfl))
         have e := dpF_go (f := 47 - i) ‹n ≠ 0› ‹(ndA t n).2 = true› hk
         refine ⟨⟨(i + 1, (ndA t n).1.kids[0]), by omega, by dsimp only; rw [← h2, show 48 - i = (47 - i) + 1 by omega, e, show 48 - (i + 1) = 47 - i by omega]; omega⟩, by simp only; omega, ?_⟩
         exact jw [])

theorem cx61 {P : Program} {X : FuncId → List Arg → List (Bool × List Cell) → List (Option (List Cell)) → Prop} {a : List Arg} {Q : List (Bool × List Cell) → List (Option (List Cell)) → Prop} (h : ∃ b vals outs, a = b ∧ D P X (.call 61 b vals outs) ∧ Q vals outs) : CallS P X 61 a Q := ⟨h⟩

end Go.Proofs.Ytacfohamlkbpjaa
