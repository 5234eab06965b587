/- Functions of the program, each with what it gives back. -/
import Derived.Test.YtacfohamlkbpjaaKe
import Derived.Test.YtacfohamlkbpjaaChecked
import Derived.IntWalk
import Derived.Test.YtacfohamlkbpjaaLf
import Derived.Test.YtacfohamlkbpjaaLg
namespace Go.Proofs.Ytacfohamlkbpjaa
open Go Go.RowKit Go.IntWalk
open Enc (sz cs)
attribute [local irreducible] IntKind.wrap

set_option maxRecDepth 100000 in
theorem tx36 {d : Dsk} {a : Nat} (hd : OkD d := by first | assumption | omega | (simp; done) | (simp; omega)) (ha : a + (cnt List.length d.secs + cnt cW d.cache + 3 * d.faults.length) ≤ 1000000000000000000 := by first | assumption | omega | (simp; done) | (simp; omega)) : T 36 [.val true [.ref 2 0 d.secs.length 1, .ref 3 0 d.cache.length 2, i6 d.ops, .ref 4 0 d.faults.length 3, b1 d.down], aI (a : Nat), .ex (cs true d.secs), .ex (cs true d.cache), .ex (cs true d.faults)] [vI (a + (cnt List.length d.secs + cnt cW d.cache + 3 * d.faults.length) : Nat)] [none, none, some (cs true (mBS a d.secs)), some (cs true (mWS (a + cnt List.length d.secs) d.cache)), some (cs true (mFS (a + cnt List.length d.secs + cnt cW d.cache) d.faults))] := by
  refine w_call md [] Try.func36 rfl ?_
  obtain ⟨h1, h2, h3, h4, h5⟩ := hd
  repeat' ((conv => whnf); (first | refine k0 ?_ | refine jA fun _ => ?_ | refine jB fun _ => ?_ | refine kC (fun _ => ?_) fun _ => ?_ | refine jS ?_ | refine jI ?_ | (apply cx93; refine kl tx93 ?_) | (apply cx94; refine kl tx94 ?_) | (apply cx43; refine kl tx43 ?_) | refine jD ?_ | refine ⟨snc, _, snr, ?_⟩ | refine ⟨⟨Nat.le_refl _, rfl⟩, [], rfl, ?_⟩ | refine And.intro ⟨rfl, rfl, by decide, rfl⟩ ?_ | refine jP ?_ | refine jO ?_ | refine jX ?_ | refine jb jr ?_ | refine jb ofs ?_ | refine ko jc ?_ | refine ko jp ?_ | refine jM ?_ | refine kr ?_ | refine ko rfl ?_ | refine And.intro (cs_shal _) ?_ | refine And.intro (rfl : List.all _ _ = true) ?_ | refine And.intro ⟨rfl, (rfl : List.all _ _ = true)⟩ ?_ | exact ⟨rfl, rfl⟩ | exact jV | fail))

theorem cx36 {P : Program} {X : FuncId → List Arg → List (Bool × List Cell) → List (Option (List Cell)) → Prop} {a : List Arg} {Q : List (Bool × List Cell) → List (Option (List Cell)) → Prop} (h : ∃ b vals outs, a = b ∧ D P X (.call 36 b vals outs) ∧ Q vals outs) : CallS P X 36 a Q := ⟨h⟩

set_option maxRecDepth 100000 in
theorem tx37 {d : Dsk} {a : Nat} (hd : OkD d := by first | assumption | omega | (simp; done) | (simp; omega)) (ha : a + (cnt List.length d.secs + cnt cW d.cache + 3 * d.faults.length) ≤ 1000000000000000000 := by first | assumption | omega | (simp; done) | (simp; omega)) : T 37 [.val true [.sl false d.secs.length 1 (cs false (mBS a d.secs)), .sl false d.cache.length 2 (cs false (mWS (a + cnt List.length d.secs) d.cache)), i6 d.ops, .sl false d.faults.length 3 (cs false (mFS (a + cnt List.length d.secs + cnt cW d.cache) d.faults)), b1 d.down], aI (a : Nat)] [vI (a + (cnt List.length d.secs + cnt cW d.cache + 3 * d.faults.length) : Nat)] [none, none] := by
  refine w_call md [] Try.func37 rfl ?_
  obtain ⟨h1, h2, h3, h4, h5⟩ := hd
  repeat' ((conv => whnf); (first | refine k0 ?_ | refine jA fun _ => ?_ | refine jB fun _ => ?_ | refine kC (fun _ => ?_) fun _ => ?_ | refine jS ?_ | refine jI ?_ | (apply cx95; refine kl tx95 ?_) | (apply cx96; refine kl tx96 ?_) | (apply cx97; refine kl tx97 ?_) | refine jD ?_ | refine ⟨snc, _, snr, ?_⟩ | refine ⟨⟨Nat.le_refl _, rfl⟩, [], rfl, ?_⟩ | refine And.intro ⟨rfl, rfl, by decide, rfl⟩ ?_ | refine jP ?_ | refine jO ?_ | refine jX ?_ | refine jb jr ?_ | refine jb ofs ?_ | refine ko jc ?_ | refine ko jp ?_ | refine jM ?_ | refine kr ?_ | refine ko rfl ?_ | refine And.intro (cs_shal _) ?_ | refine And.intro (rfl : List.all _ _ = true) ?_ | refine And.intro ⟨rfl, (rfl : List.all _ _ = true)⟩ ?_ | exact ⟨rfl, rfl⟩ | exact jV | fail))

theorem cx37 {P : Program} {X : FuncId → List Arg → List (Bool × List Cell) → List (Option (List Cell)) → Prop} {a : List Arg} {Q : List (Bool × List Cell) → List (Option (List Cell)) → Prop} (h : ∃ b vals outs, a = b ∧ D P X (.call 37 b vals outs) ∧ Q vals outs) : CallS P X 37 a Q := ⟨h⟩

set_option maxRecDepth 100000 in
theorem tx59 {x : Nod} {a : Nat} (hd : OkN x := by first | assumption | omega | (simp; done) | (simp; omega)) (ha : a ≤ 1000000000000000 := by first | assumption | omega | (simp; done) | (simp; omega)) : T 59 [.val true [b1 x.leaf, .ref 2 0 x.keys.length 1, .ref 3 0 x.vals.length 1, .ref 4 0 x.kids.length 1], aI (a : Nat), .ex (cs true x.keys), .ex (cs true x.vals), .ex (cs true x.kids)] [vI (a + (x.keys.length + x.vals.length + x.kids.length) : Nat)] [none, none, some (cs true (mS a x.keys)), some (cs true (mS (a + x.keys.length) x.vals)), some (cs true (mI (a + x.keys.length + x.vals.length) x.kids))] := by
  refine w_call md [] Try.func59 rfl ?_
  obtain ⟨h1, h2, h3⟩ := hd
  repeat' ((conv => whnf); (first | refine k0 ?_ | refine jA fun _ => ?_ | refine jB fun _ => ?_ | refine kC (fun _ => ?_) fun _ => ?_ | refine jS ?_ | refine jI ?_ | (apply cx121; refine kl tx121 ?_) | (apply cx122; refine kl tx122 ?_) | refine jD ?_ | refine ⟨snc, _, snr, ?_⟩ | refine ⟨⟨Nat.le_refl _, rfl⟩, [], rfl, ?_⟩ | refine And.intro ⟨rfl, rfl, by decide, rfl⟩ ?_ | refine jP ?_ | refine jO ?_ | refine jX ?_ | refine jb jr ?_ | refine jb ofs ?_ | refine ko jc ?_ | refine ko jp ?_ | refine jM ?_ | refine kr ?_ | refine ko rfl ?_ | refine And.intro (cs_shal _) ?_ | refine And.intro (rfl : List.all _ _ = true) ?_ | refine And.intro ⟨rfl, (rfl : List.all _ _ = true)⟩ ?_ | exact ⟨rfl, rfl⟩ | exact jV | fail))

theorem cx59 {P : Program} {X : FuncId → List Arg → List (Bool × List Cell) → List (Option (List Cell)) → Prop} {a : List Arg} {Q : List (Bool × List Cell) → List (Option (List Cell)) → Prop} (h : ∃ b vals outs, a = b ∧ D P X (.call 59 b vals outs) ∧ Q vals outs) : CallS P X 59 a Q := ⟨h⟩

set_option maxRecDepth 100000 in
theorem tx60 {x : Nod} {a : Nat} (hd : OkN x := by first | assumption | omega | (simp; done) | (simp; omega)) (ha : a ≤ 1000000000000000 := by first | assumption | omega | (simp; done) | (simp; omega)) : T 60 [.val true [b1 x.leaf, .sl false x.keys.length 1 (cs false (mS a x.keys)), .sl false x.vals.length 1 (cs false (mS (a + x.keys.length) x.vals)), .sl false x.kids.length 1 (cs false (mI (a + x.keys.length + x.vals.length) x.kids))], aI (a : Nat)] [vI (a + (x.keys.length + x.vals.length + x.kids.length) : Nat)] [none, none] := by
  refine w_call md [] Try.func60 rfl ?_
  obtain ⟨h1, h2, h3⟩ := hd
  repeat' ((conv => whnf); (first | refine k0 ?_ | refine jA fun _ => ?_ | refine jB fun _ => ?_ | refine kC (fun _ => ?_) fun _ => ?_ | refine jS ?_ | refine jI ?_ | (apply cx123; refine kl tx123 ?_) | (apply cx124; refine kl tx124 ?_) | refine jD ?_ | refine ⟨snc, _, snr, ?_⟩ | refine ⟨⟨Nat.le_refl _, rfl⟩, [], rfl, ?_⟩ | refine And.intro ⟨rfl, rfl, by decide, rfl⟩ ?_ | refine jP ?_ | refine jO ?_ | refine jX ?_ | refine jb jr ?_ | refine jb ofs ?_ | refine ko jc ?_ | refine ko jp ?_ | refine jM ?_ | refine kr ?_ | refine ko rfl ?_ | refine And.intro (cs_shal _) ?_ | refine And.intro (rfl : List.all _ _ = true) ?_ | refine And.intro ⟨rfl, (rfl : List.all _ _ = true)⟩ ?_ | exact ⟨rfl, rfl⟩ | exact jV | fail))

theorem cx60 {P : Program} {X : FuncId → List Arg → List (Bool × List Cell) → List (Option (List Cell)) → Prop} {a : List Arg} {Q : List (Bool × List Cell) → List (Option (List Cell)) → Prop} (h : ∃ b vals outs, a = b ∧ D P X (.call 60 b vals outs) ∧ Q vals outs) : CallS P X 60 a Q := ⟨h⟩

set_option maxRecDepth 100000 in
theorem tx52 {t : Txn} {a : Nat} (hd : OkT t := by first | assumption | omega | (simp; done) | (simp; omega)) (ha : a + (cnt List.length t.d.secs + cnt cW t.d.cache + 3 * t.d.faults.length + cnt cFr t.new) ≤ 1000000000000000000 := by first | assumption | omega | (simp; done) | (simp; omega)) : T 52 [.val true [.ref 2 0 t.d.secs.length 1, .ref 3 0 t.d.cache.length 2, i6 t.d.ops, .ref 4 0 t.d.faults.length 3, b1 t.d.down, i6 t.m.gen, i6 t.m.root, i6 t.root, .ref 5 0 t.new.length 5], aI (a : Nat), .ex (cs true t.d.secs), .ex (cs true t.d.cache), .ex (cs true t.d.faults), .ex (cs true t.new)] [vI (a + (cnt List.length t.d.secs + cnt cW t.d.cache + 3 * t.d.faults.length + cnt cFr t.new) : Nat)] [none, none, some (cs true (mBS a t.d.secs)), some (cs true (mWS (a + cnt List.length t.d.secs) t.d.cache)), some (cs true (mFS (a + cnt List.length t.d.secs + cnt cW t.d.cache) t.d.faults)), some (cs true (mFrS (a + (cnt List.length t.d.secs + cnt cW t.d.cache + 3 * t.d.faults.length)) t.new))] := by
  refine w_call md [] Try.func52 rfl ?_
  obtain ⟨hd, h2, h3⟩ := hd
  repeat' ((conv => whnf); (first | (apply cx36; refine kl (tx36 (d := t.d)) ?_) | refine k0 ?_ | refine jA fun _ => ?_ | refine jB fun _ => ?_ | refine kC (fun _ => ?_) fun _ => ?_ | refine jS ?_ | refine jI ?_ | (apply cx36; refine kl tx36 ?_) | (apply cx109; refine kl tx109 ?_) | refine jD ?_ | refine ⟨snc, _, snr, ?_⟩ | refine ⟨⟨Nat.le_refl _, rfl⟩, [], rfl, ?_⟩ | refine And.intro ⟨rfl, rfl, by decide, rfl⟩ ?_ | refine jP ?_ | refine jO ?_ | refine jX ?_ | refine jb jr ?_ | refine jb ofs ?_ | refine ko jc ?_ | refine ko jp ?_ | refine jM ?_ | refine kr ?_ | refine ko rfl ?_ | refine And.intro (cs_shal _) ?_ | refine And.intro (rfl : List.all _ _ = true) ?_ | refine And.intro ⟨rfl, (rfl : List.all _ _ = true)⟩ ?_ | exact ⟨rfl, rfl⟩ | exact jV | fail))

theorem cx52 {P : Program} {X : FuncId → List Arg → List (Bool × List Cell) → List (Option (List Cell)) → Prop} {a : List Arg} {Q : List (Bool × List Cell) → List (Option (List Cell)) → Prop} (h : ∃ b vals outs, a = b ∧ D P X (.call 52 b vals outs) ∧ Q vals outs) : CallS P X 52 a Q := ⟨h⟩

set_option maxRecDepth 100000 in
theorem tx53 {t : Txn} {a : Nat} (hd : OkT t := by first | assumption | omega | (simp; done) | (simp; omega)) (ha : a + (cnt List.length t.d.secs + cnt cW t.d.cache + 3 * t.d.faults.length + cnt cFr t.new) ≤ 1000000000000000000 := by first | assumption | omega | (simp; done) | (simp; omega)) : T 53 [.val true [.sl false t.d.secs.length 1 (cs false (mBS a t.d.secs)), .sl false t.d.cache.length 2 (cs false (mWS (a + cnt List.length t.d.secs) t.d.cache)), i6 t.d.ops, .sl false t.d.faults.length 3 (cs false (mFS (a + cnt List.length t.d.secs + cnt cW t.d.cache) t.d.faults)), b1 t.d.down, i6 t.m.gen, i6 t.m.root, i6 t.root, .sl false t.new.length 5 (cs false (mFrS (a + (cnt List.length t.d.secs + cnt cW t.d.cache + 3 * t.d.faults.length)) t.new))], aI (a : Nat)] [vI (a + (cnt List.length t.d.secs + cnt cW t.d.cache + 3 * t.d.faults.length + cnt cFr t.new) : Nat)] [none, none] := by
  refine w_call md [] Try.func53 rfl ?_
  obtain ⟨hd, h2, h3⟩ := hd
  repeat' ((conv => whnf); (first | (apply cx37; refine kl (tx37 (d := t.d)) ?_) | refine k0 ?_ | refine jA fun _ => ?_ | refine jB fun _ => ?_ | refine kC (fun _ => ?_) fun _ => ?_ | refine jS ?_ | refine jI ?_ | (apply cx37; refine kl tx37 ?_) | (apply cx110; refine kl tx110 ?_) | refine jD ?_ | refine ⟨snc, _, snr, ?_⟩ | refine ⟨⟨Nat.le_refl _, rfl⟩, [], rfl, ?_⟩ | refine And.intro ⟨rfl, rfl, by decide, rfl⟩ ?_ | refine jP ?_ | refine jO ?_ | refine jX ?_ | refine jb jr ?_ | refine jb ofs ?_ | refine ko jc ?_ | refine ko jp ?_ | refine jM ?_ | refine kr ?_ | refine ko rfl ?_ | refine And.intro (cs_shal _) ?_ | refine And.intro (rfl : List.all _ _ = true) ?_ | refine And.intro ⟨rfl, (rfl : List.all _ _ = true)⟩ ?_ | exact ⟨rfl, rfl⟩ | exact jV | fail))

theorem cx53 {P : Program} {X : FuncId → List Arg → List (Bool × List Cell) → List (Option (List Cell)) → Prop} {a : List Arg} {Q : List (Bool × List Cell) → List (Option (List Cell)) → Prop} (h : ∃ b vals outs, a = b ∧ D P X (.call 53 b vals outs) ∧ Q vals outs) : CallS P X 53 a Q := ⟨h⟩

end Go.Proofs.Ytacfohamlkbpjaa
