/- Functions of the program, each with what it gives back. -/
import Derived.Test.YtkggnekdjdnhiaaGreatKe
import Derived.Test.YtkggnekdjdnhiaaGreatChecked
import Derived.IntWalk
import Derived.Test.YtkggnekdjdnhiaaGreatLf
import Derived.Test.YtkggnekdjdnhiaaGreatLg
namespace Go.Proofs.YtkggnekdjdnhiaaGreat
open Go Go.RowKit Go.IntWalk
open Enc (sz cs)
attribute [local irreducible] IntKind.wrap

set_option maxRecDepth 100000 in
theorem tx26 {d : Dsk} {a : Nat} (hd : OkD d := by first | assumption | omega | (simp; done) | (simp; omega)) (ha : a + (cnt List.length d.secs + cnt cW d.cache + 3 * d.faults.length) ≤ 1000000000000000000 := by first | assumption | omega | (simp; done) | (simp; omega)) : T 26 [.val true [.ref 2 0 d.secs.length 1, .ref 3 0 d.cache.length 2, i6 d.ops, .ref 4 0 d.faults.length 3, b1 d.down], aI (a : Nat), .ex (cs true d.secs), .ex (cs true d.cache), .ex (cs true d.faults)] [vI (a + (cnt List.length d.secs + cnt cW d.cache + 3 * d.faults.length) : Nat)] [none, none, some (cs true (mBS a d.secs)), some (cs true (mWS (a + cnt List.length d.secs) d.cache)), some (cs true (mFS (a + cnt List.length d.secs + cnt cW d.cache) d.faults))] := by
  refine w_call md [] Tryz.func26 rfl ?_
  obtain ⟨h1, h2, h3, h4, h5⟩ := hd
  repeat' ((conv => whnf); (first | refine k0 ?_ | refine jA fun _ => ?_ | refine jB fun _ => ?_ | refine kC (fun _ => ?_) fun _ => ?_ | refine jS ?_ | refine jI ?_ | (apply cx69; refine kl tx69 ?_) | (apply cx70; refine kl tx70 ?_) | (apply cx71; refine kl tx71 ?_) | refine jD ?_ | refine ⟨snc, _, snr, ?_⟩ | refine ⟨⟨Nat.le_refl _, rfl⟩, [], rfl, ?_⟩ | refine And.intro ⟨rfl, rfl, by decide, rfl⟩ ?_ | refine jP ?_ | refine jO ?_ | refine jX ?_ | refine jb jr ?_ | refine jb ofs ?_ | refine ko jc ?_ | refine ko jp ?_ | refine jM ?_ | refine kr ?_ | refine ko rfl ?_ | refine And.intro (cs_shal _) ?_ | refine And.intro (rfl : List.all _ _ = true) ?_ | refine And.intro ⟨rfl, (rfl : List.all _ _ = true)⟩ ?_ | exact ⟨rfl, rfl⟩ | exact jV | fail))

theorem cx26 {P : Program} {X : FuncId → List Arg → List (Bool × List Cell) → List (Option (List Cell)) → Prop} {a : List Arg} {Q : List (Bool × List Cell) → List (Option (List Cell)) → Prop} (h : ∃ b vals outs, a = b ∧ D P X (.call 26 b vals outs) ∧ Q vals outs) : CallS P X 26 a Q := ⟨h⟩

set_option maxRecDepth 100000 in
theorem tx27 {d : Dsk} {a : Nat} (hd : OkD d := by first | assumption | omega | (simp; done) | (simp; omega)) (ha : a + (cnt List.length d.secs + cnt cW d.cache + 3 * d.faults.length) ≤ 1000000000000000000 := by first | assumption | omega | (simp; done) | (simp; omega)) : T 27 [.val true [.sl false d.secs.length 1 (cs false (mBS a d.secs)), .sl false d.cache.length 2 (cs false (mWS (a + cnt List.length d.secs) d.cache)), i6 d.ops, .sl false d.faults.length 3 (cs false (mFS (a + cnt List.length d.secs + cnt cW d.cache) d.faults)), b1 d.down], aI (a : Nat)] [vI (a + (cnt List.length d.secs + cnt cW d.cache + 3 * d.faults.length) : Nat)] [none, none] := by
  refine w_call md [] Tryz.func27 rfl ?_
  obtain ⟨h1, h2, h3, h4, h5⟩ := hd
  repeat' ((conv => whnf); (first | refine k0 ?_ | refine jA fun _ => ?_ | refine jB fun _ => ?_ | refine kC (fun _ => ?_) fun _ => ?_ | refine jS ?_ | refine jI ?_ | (apply cx72; refine kl tx72 ?_) | (apply cx73; refine kl tx73 ?_) | (apply cx74; refine kl tx74 ?_) | refine jD ?_ | refine ⟨snc, _, snr, ?_⟩ | refine ⟨⟨Nat.le_refl _, rfl⟩, [], rfl, ?_⟩ | refine And.intro ⟨rfl, rfl, by decide, rfl⟩ ?_ | refine jP ?_ | refine jO ?_ | refine jX ?_ | refine jb jr ?_ | refine jb ofs ?_ | refine ko jc ?_ | refine ko jp ?_ | refine jM ?_ | refine kr ?_ | refine ko rfl ?_ | refine And.intro (cs_shal _) ?_ | refine And.intro (rfl : List.all _ _ = true) ?_ | refine And.intro ⟨rfl, (rfl : List.all _ _ = true)⟩ ?_ | exact ⟨rfl, rfl⟩ | exact jV | fail))

theorem cx27 {P : Program} {X : FuncId → List Arg → List (Bool × List Cell) → List (Option (List Cell)) → Prop} {a : List Arg} {Q : List (Bool × List Cell) → List (Option (List Cell)) → Prop} (h : ∃ b vals outs, a = b ∧ D P X (.call 27 b vals outs) ∧ Q vals outs) : CallS P X 27 a Q := ⟨h⟩

set_option maxRecDepth 100000 in
theorem tx13 {t : Txn} {a : Nat} (hd : OkT t := by first | assumption | omega | (simp; done) | (simp; omega)) (ha : a + (cnt List.length t.d.secs + cnt cW t.d.cache + 3 * t.d.faults.length + cnt cFr t.new) ≤ 1000000000000000000 := by first | assumption | omega | (simp; done) | (simp; omega)) : T 13 [.val true [.ref 2 0 t.d.secs.length 1, .ref 3 0 t.d.cache.length 2, i6 t.d.ops, .ref 4 0 t.d.faults.length 3, b1 t.d.down, i6 t.m.gen, i6 t.m.root, i6 t.root, .ref 5 0 t.new.length 5], aI (a : Nat), .ex (cs true t.d.secs), .ex (cs true t.d.cache), .ex (cs true t.d.faults), .ex (cs true t.new)] [vI (a + (cnt List.length t.d.secs + cnt cW t.d.cache + 3 * t.d.faults.length + cnt cFr t.new) : Nat)] [none, none, some (cs true (mBS a t.d.secs)), some (cs true (mWS (a + cnt List.length t.d.secs) t.d.cache)), some (cs true (mFS (a + cnt List.length t.d.secs + cnt cW t.d.cache) t.d.faults)), some (cs true (mFrS (a + (cnt List.length t.d.secs + cnt cW t.d.cache + 3 * t.d.faults.length)) t.new))] := by
  refine w_call md [] Tryz.func13 rfl ?_
  obtain ⟨hd, h2, h3⟩ := hd
  repeat' ((conv => whnf); (first | (apply cx26; refine kl (tx26 (d := t.d)) ?_) | refine k0 ?_ | refine jA fun _ => ?_ | refine jB fun _ => ?_ | refine kC (fun _ => ?_) fun _ => ?_ | refine jS ?_ | refine jI ?_ | (apply cx26; refine kl tx26 ?_) | (apply cx38; refine kl tx38 ?_) | refine jD ?_ | refine ⟨snc, _, snr, ?_⟩ | refine ⟨⟨Nat.le_refl _, rfl⟩, [], rfl, ?_⟩ | refine And.intro ⟨rfl, rfl, by decide, rfl⟩ ?_ | refine jP ?_ | refine jO ?_ | refine jX ?_ | refine jb jr ?_ | refine jb ofs ?_ | refine ko jc ?_ | refine ko jp ?_ | refine jM ?_ | refine kr ?_ | refine ko rfl ?_ | refine And.intro (cs_shal _) ?_ | refine And.intro (rfl : List.all _ _ = true) ?_ | refine And.intro ⟨rfl, (rfl : List.all _ _ = true)⟩ ?_ | exact ⟨rfl, rfl⟩ | exact jV | fail))

theorem cx13 {P : Program} {X : FuncId → List Arg → List (Bool × List Cell) → List (Option (List Cell)) → Prop} {a : List Arg} {Q : List (Bool × List Cell) → List (Option (List Cell)) → Prop} (h : ∃ b vals outs, a = b ∧ D P X (.call 13 b vals outs) ∧ Q vals outs) : CallS P X 13 a Q := ⟨h⟩

end Go.Proofs.YtkggnekdjdnhiaaGreat
