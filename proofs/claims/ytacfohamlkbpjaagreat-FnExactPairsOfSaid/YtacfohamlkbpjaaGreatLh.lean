/- Functions of the program, each with what it gives back. -/
import Derived.Test.YtacfohamlkbpjaaGreatKe
import Derived.Test.YtacfohamlkbpjaaGreatChecked
import Derived.IntWalk
import Derived.Test.YtacfohamlkbpjaaGreatLf
import Derived.Test.YtacfohamlkbpjaaGreatLg
namespace Go.Proofs.YtacfohamlkbpjaaGreat
open Go Go.RowKit Go.IntWalk
open Enc (sz cs)
attribute [local irreducible] IntKind.wrap

set_option maxRecDepth 100000 in
theorem tx24 {d : Dsk} {a : Nat} (hd : OkD d := by first | assumption | omega | (simp; done) | (simp; omega)) (ha : a + (cnt List.length d.secs + cnt cW d.cache + 3 * d.faults.length) ≤ 1000000000000000000 := by first | assumption | omega | (simp; done) | (simp; omega)) : T 24 [.val true [.ref 2 0 d.secs.length 1, .ref 3 0 d.cache.length 2, i6 d.ops, .ref 4 0 d.faults.length 3, b1 d.down], aI (a : Nat), .ex (cs true d.secs), .ex (cs true d.cache), .ex (cs true d.faults)] [vI (a + (cnt List.length d.secs + cnt cW d.cache + 3 * d.faults.length) : Nat)] [none, none, some (cs true (mBS a d.secs)), some (cs true (mWS (a + cnt List.length d.secs) d.cache)), some (cs true (mFS (a + cnt List.length d.secs + cnt cW d.cache) d.faults))] := by
  refine w_call md [] Tryz.func24 rfl ?_
  obtain ⟨h1, h2, h3, h4, h5⟩ := hd
  repeat' ((conv => whnf); (first | refine k0 ?_ | refine jA fun _ => ?_ | refine jB fun _ => ?_ | refine kC (fun _ => ?_) fun _ => ?_ | refine jS ?_ | refine jI ?_ | (apply cx43; refine kl tx43 ?_) | (apply cx44; refine kl tx44 ?_) | (apply cx45; refine kl tx45 ?_) | refine jD ?_ | refine ⟨snc, _, snr, ?_⟩ | refine ⟨⟨Nat.le_refl _, rfl⟩, [], rfl, ?_⟩ | refine And.intro ⟨rfl, rfl, by decide, rfl⟩ ?_ | refine jP ?_ | refine jO ?_ | refine jX ?_ | refine jb jr ?_ | refine jb ofs ?_ | refine ko jc ?_ | refine ko jp ?_ | refine jM ?_ | refine kr ?_ | refine ko rfl ?_ | refine And.intro (cs_shal _) ?_ | refine And.intro (rfl : List.all _ _ = true) ?_ | refine And.intro ⟨rfl, (rfl : List.all _ _ = true)⟩ ?_ | exact ⟨rfl, rfl⟩ | exact jV | fail))

theorem cx24 {P : Program} {X : FuncId → List Arg → List (Bool × List Cell) → List (Option (List Cell)) → Prop} {a : List Arg} {Q : List (Bool × List Cell) → List (Option (List Cell)) → Prop} (h : ∃ b vals outs, a = b ∧ D P X (.call 24 b vals outs) ∧ Q vals outs) : CallS P X 24 a Q := ⟨h⟩

set_option maxRecDepth 100000 in
theorem tx10 {t : Txn} {a : Nat} (hd : OkT t := by first | assumption | omega | (simp; done) | (simp; omega)) (ha : a + (cnt List.length t.d.secs + cnt cW t.d.cache + 3 * t.d.faults.length + cnt cFr t.new) ≤ 1000000000000000000 := by first | assumption | omega | (simp; done) | (simp; omega)) : T 10 [.val true [.ref 2 0 t.d.secs.length 1, .ref 3 0 t.d.cache.length 2, i6 t.d.ops, .ref 4 0 t.d.faults.length 3, b1 t.d.down, i6 t.m.gen, i6 t.m.root, i6 t.root, .ref 5 0 t.new.length 5], aI (a : Nat), .ex (cs true t.d.secs), .ex (cs true t.d.cache), .ex (cs true t.d.faults), .ex (cs true t.new)] [vI (a + (cnt List.length t.d.secs + cnt cW t.d.cache + 3 * t.d.faults.length + cnt cFr t.new) : Nat)] [none, none, some (cs true (mBS a t.d.secs)), some (cs true (mWS (a + cnt List.length t.d.secs) t.d.cache)), some (cs true (mFS (a + cnt List.length t.d.secs + cnt cW t.d.cache) t.d.faults)), some (cs true (mFrS (a + (cnt List.length t.d.secs + cnt cW t.d.cache + 3 * t.d.faults.length)) t.new))] := by
  refine w_call md [] Tryz.func10 rfl ?_
  obtain ⟨hd, h2, h3⟩ := hd
  repeat' ((conv => whnf); (first | (apply cx24; refine kl (tx24 (d := t.d)) ?_) | refine k0 ?_ | refine jA fun _ => ?_ | refine jB fun _ => ?_ | refine kC (fun _ => ?_) fun _ => ?_ | refine jS ?_ | refine jI ?_ | (apply cx24; refine kl tx24 ?_) | (apply cx25; refine kl tx25 ?_) | refine jD ?_ | refine ⟨snc, _, snr, ?_⟩ | refine ⟨⟨Nat.le_refl _, rfl⟩, [], rfl, ?_⟩ | refine And.intro ⟨rfl, rfl, by decide, rfl⟩ ?_ | refine jP ?_ | refine jO ?_ | refine jX ?_ | refine jb jr ?_ | refine jb ofs ?_ | refine ko jc ?_ | refine ko jp ?_ | refine jM ?_ | refine kr ?_ | refine ko rfl ?_ | refine And.intro (cs_shal _) ?_ | refine And.intro (rfl : List.all _ _ = true) ?_ | refine And.intro ⟨rfl, (rfl : List.all _ _ = true)⟩ ?_ | exact ⟨rfl, rfl⟩ | exact jV | fail))

theorem cx10 {P : Program} {X : FuncId → List Arg → List (Bool × List Cell) → List (Option (List Cell)) → Prop} {a : List Arg} {Q : List (Bool × List Cell) → List (Option (List Cell)) → Prop} (h : ∃ b vals outs, a = b ∧ D P X (.call 10 b vals outs) ∧ Q vals outs) : CallS P X 10 a Q := ⟨h⟩

end Go.Proofs.YtacfohamlkbpjaaGreat
