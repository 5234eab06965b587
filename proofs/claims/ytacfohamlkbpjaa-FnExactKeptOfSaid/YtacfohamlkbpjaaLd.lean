/- Functions of the program, each with what it gives back. -/
import Derived.Test.YtacfohamlkbpjaaKe
import Derived.Test.YtacfohamlkbpjaaChecked
import Derived.IntWalk
import Derived.Test.YtacfohamlkbpjaaLc
namespace Go.Proofs.Ytacfohamlkbpjaa
open Go Go.RowKit Go.IntWalk
open Enc (sz cs)
attribute [local irreducible] IntKind.wrap

set_option maxRecDepth 100000 in
theorem tx101 {f : Fau} : T 101 [.val true (fauC f), .val true (fauC f)] [vB true] [none, none] := by
  refine w_call md [] Try.func101 rfl ?_
  repeat' ((conv => whnf); (first | refine k0 ?_ | refine jA fun _ => ?_ | refine jB fun _ => ?_ | refine kC (fun _ => ?_) fun _ => ?_ | refine jS ?_ | refine jI ?_ | refine jD ?_ | refine ⟨snc, _, snr, ?_⟩ | refine ⟨⟨Nat.le_refl _, rfl⟩, [], rfl, ?_⟩ | refine And.intro ⟨rfl, rfl, by decide, rfl⟩ ?_ | refine jP ?_ | refine jO ?_ | refine jX ?_ | refine jb jr ?_ | refine jb ofs ?_ | refine ko jc ?_ | refine ko jp ?_ | refine jM ?_ | refine kr ?_ | refine ko rfl ?_ | refine And.intro (cs_shal _) ?_ | refine And.intro (rfl : List.all _ _ = true) ?_ | refine And.intro ⟨rfl, (rfl : List.all _ _ = true)⟩ ?_ | exact ⟨rfl, rfl⟩ | exact jV | fail))

theorem cx101 {P : Program} {X : FuncId → List Arg → List (Bool × List Cell) → List (Option (List Cell)) → Prop} {a : List Arg} {Q : List (Bool × List Cell) → List (Option (List Cell)) → Prop} (h : ∃ b vals outs, a = b ∧ D P X (.call 101 b vals outs) ∧ Q vals outs) : CallS P X 101 a Q := ⟨h⟩

set_option maxRecDepth 100000 in
theorem tx127 {f : Pai} : T 127 [.val true (paiC f), .val true (paiC f)] [vB true] [none, none] := by
  refine w_call md [] Try.func127 rfl ?_
  repeat' ((conv => whnf); (first | refine k0 ?_ | refine jA fun _ => ?_ | refine jB fun _ => ?_ | refine kC (fun _ => ?_) fun _ => ?_ | refine jS ?_ | refine jI ?_ | refine jD ?_ | refine ⟨snc, _, snr, ?_⟩ | refine ⟨⟨Nat.le_refl _, rfl⟩, [], rfl, ?_⟩ | refine And.intro ⟨rfl, rfl, by decide, rfl⟩ ?_ | refine jP ?_ | refine jO ?_ | refine jX ?_ | refine jb jr ?_ | refine jb ofs ?_ | refine ko jc ?_ | refine ko jp ?_ | refine jM ?_ | refine kr ?_ | refine ko rfl ?_ | refine And.intro (cs_shal _) ?_ | refine And.intro (rfl : List.all _ _ = true) ?_ | refine And.intro ⟨rfl, (rfl : List.all _ _ = true)⟩ ?_ | exact ⟨rfl, rfl⟩ | exact jV | fail))

theorem cx127 {P : Program} {X : FuncId → List Arg → List (Bool × List Cell) → List (Option (List Cell)) → Prop} {a : List Arg} {Q : List (Bool × List Cell) → List (Option (List Cell)) → Prop} (h : ∃ b vals outs, a = b ∧ D P X (.call 127 b vals outs) ∧ Q vals outs) : CallS P X 127 a Q := ⟨h⟩

set_option maxRecDepth 100000 in
theorem tx23 {f : Met} : T 23 [.val true (metC f), .val true (metC f)] [vB true] [none, none] := by
  refine w_call md [] Try.func23 rfl ?_
  repeat' ((conv => whnf); (first | refine k0 ?_ | refine jA fun _ => ?_ | refine jB fun _ => ?_ | refine kC (fun _ => ?_) fun _ => ?_ | refine jS ?_ | refine jI ?_ | refine jD ?_ | refine ⟨snc, _, snr, ?_⟩ | refine ⟨⟨Nat.le_refl _, rfl⟩, [], rfl, ?_⟩ | refine And.intro ⟨rfl, rfl, by decide, rfl⟩ ?_ | refine jP ?_ | refine jO ?_ | refine jX ?_ | refine jb jr ?_ | refine jb ofs ?_ | refine ko jc ?_ | refine ko jp ?_ | refine jM ?_ | refine kr ?_ | refine ko rfl ?_ | refine And.intro (cs_shal _) ?_ | refine And.intro (rfl : List.all _ _ = true) ?_ | refine And.intro ⟨rfl, (rfl : List.all _ _ = true)⟩ ?_ | exact ⟨rfl, rfl⟩ | exact jV | fail))

theorem cx23 {P : Program} {X : FuncId → List Arg → List (Bool × List Cell) → List (Option (List Cell)) → Prop} {a : List Arg} {Q : List (Bool × List Cell) → List (Option (List Cell)) → Prop} (h : ∃ b vals outs, a = b ∧ D P X (.call 23 b vals outs) ∧ Q vals outs) : CallS P X 23 a Q := ⟨h⟩

set_option maxRecDepth 100000 in
theorem tx144 {w : Wri} (hw : w.b.length ≤ 1000000000000 := by first | assumption | omega | (simp; done) | (simp; omega)) : T 144 [.val true (wriC false w), .val true (wriC false w)] [vB true] [none, none] := by
  refine w_call md [] Try.func144 rfl ?_
  repeat' ((conv => whnf); (first | refine k0 ?_ | refine jA fun _ => ?_ | refine jB fun _ => ?_ | refine kC (fun _ => ?_) fun _ => ?_ | refine jS ?_ | refine jI ?_ | (apply cx17; refine kl tx17 ?_) | refine jD ?_ | refine ⟨snc, _, snr, ?_⟩ | refine ⟨⟨Nat.le_refl _, rfl⟩, [], rfl, ?_⟩ | refine And.intro ⟨rfl, rfl, by decide, rfl⟩ ?_ | refine jP ?_ | refine jO ?_ | refine jX ?_ | refine jb jr ?_ | refine jb ofs ?_ | refine ko jc ?_ | refine ko jp ?_ | refine jM ?_ | refine kr ?_ | refine ko rfl ?_ | refine And.intro (cs_shal _) ?_ | refine And.intro (rfl : List.all _ _ = true) ?_ | refine And.intro ⟨rfl, (rfl : List.all _ _ = true)⟩ ?_ | exact ⟨rfl, rfl⟩ | exact jV | fail))

theorem cx144 {P : Program} {X : FuncId → List Arg → List (Bool × List Cell) → List (Option (List Cell)) → Prop} {a : List Arg} {Q : List (Bool × List Cell) → List (Option (List Cell)) → Prop} (h : ∃ b vals outs, a = b ∧ D P X (.call 144 b vals outs) ∧ Q vals outs) : CallS P X 144 a Q := ⟨h⟩

set_option maxRecDepth 100000 in
theorem tx58 {x : Nod} (hx : OkN x := by first | assumption | omega | (simp; done) | (simp; omega)) : T 58 [.val true (nodC false x), .val true (nodC false x)] [vB true] [none, none] := by
  obtain ⟨h1, h2, h3⟩ := hx
  obtain ⟨leaf, keys, vals, kids⟩ := x
  dsimp only [nodC] at h1 h2 h3 ⊢
  refine w_call md [] Try.func58 rfl ?_
  cases leaf
  · repeat' ((conv => whnf); (first | refine k0 ?_ | refine jA fun _ => ?_ | refine jB fun _ => ?_ | refine kC (fun _ => ?_) fun _ => ?_ | refine jS ?_ | refine jI ?_ | (apply cx119; refine kl tx119 ?_) | (apply cx120; refine kl tx120 ?_) | refine jD ?_ | refine ⟨snc, _, snr, ?_⟩ | refine ⟨⟨Nat.le_refl _, rfl⟩, [], rfl, ?_⟩ | refine And.intro ⟨rfl, rfl, by decide, rfl⟩ ?_ | refine jP ?_ | refine jO ?_ | refine jX ?_ | refine jb jr ?_ | refine jb ofs ?_ | refine ko jc ?_ | refine ko jp ?_ | refine jM ?_ | refine kr ?_ | refine ko rfl ?_ | refine And.intro (cs_shal _) ?_ | refine And.intro (rfl : List.all _ _ = true) ?_ | refine And.intro ⟨rfl, (rfl : List.all _ _ = true)⟩ ?_ | exact ⟨rfl, rfl⟩ | exact jV | fail))
  · repeat' ((conv => whnf); (first | refine k0 ?_ | refine jA fun _ => ?_ | refine jB fun _ => ?_ | refine kC (fun _ => ?_) fun _ => ?_ | refine jS ?_ | refine jI ?_ | (apply cx119; refine kl tx119 ?_) | (apply cx120; refine kl tx120 ?_) | refine jD ?_ | refine ⟨snc, _, snr, ?_⟩ | refine ⟨⟨Nat.le_refl _, rfl⟩, [], rfl, ?_⟩ | refine And.intro ⟨rfl, rfl, by decide, rfl⟩ ?_ | refine jP ?_ | refine jO ?_ | refine jX ?_ | refine jb jr ?_ | refine jb ofs ?_ | refine ko jc ?_ | refine ko jp ?_ | refine jM ?_ | refine kr ?_ | refine ko rfl ?_ | refine And.intro (cs_shal _) ?_ | refine And.intro (rfl : List.all _ _ = true) ?_ | refine And.intro ⟨rfl, (rfl : List.all _ _ = true)⟩ ?_ | exact ⟨rfl, rfl⟩ | exact jV | fail))

theorem cx58 {P : Program} {X : FuncId → List Arg → List (Bool × List Cell) → List (Option (List Cell)) → Prop} {a : List Arg} {Q : List (Bool × List Cell) → List (Option (List Cell)) → Prop} (h : ∃ b vals outs, a = b ∧ D P X (.call 58 b vals outs) ∧ Q vals outs) : CallS P X 58 a Q := ⟨h⟩

set_option maxRecDepth 100000 in
theorem tx149 {f : Fre} (hx : OkN f.x := by first | assumption | omega | (simp; done) | (simp; omega)) : T 149 [.val true (freC false f), .val true (freC false f)] [vB true] [none, none] := by
  refine w_call md [] Try.func149 rfl ?_
  repeat' ((conv => whnf); (first | refine k0 ?_ | refine jA fun _ => ?_ | refine jB fun _ => ?_ | refine kC (fun _ => ?_) fun _ => ?_ | refine jS ?_ | refine jI ?_ | (apply cx58; refine kl tx58 ?_) | refine jD ?_ | refine ⟨snc, _, snr, ?_⟩ | refine ⟨⟨Nat.le_refl _, rfl⟩, [], rfl, ?_⟩ | refine And.intro ⟨rfl, rfl, by decide, rfl⟩ ?_ | refine jP ?_ | refine jO ?_ | refine jX ?_ | refine jb jr ?_ | refine jb ofs ?_ | refine ko jc ?_ | refine ko jp ?_ | refine jM ?_ | refine kr ?_ | refine ko rfl ?_ | refine And.intro (cs_shal _) ?_ | refine And.intro (rfl : List.all _ _ = true) ?_ | refine And.intro ⟨rfl, (rfl : List.all _ _ = true)⟩ ?_ | exact ⟨rfl, rfl⟩ | exact jV | fail))

theorem cx149 {P : Program} {X : FuncId → List Arg → List (Bool × List Cell) → List (Option (List Cell)) → Prop} {a : List Arg} {Q : List (Bool × List Cell) → List (Option (List Cell)) → Prop} (h : ∃ b vals outs, a = b ∧ D P X (.call 149 b vals outs) ∧ Q vals outs) : CallS P X 149 a Q := ⟨h⟩

set_option maxRecDepth 100000 in
theorem tx91 {l : List (List UInt8)} (hl : l.length ≤ 1000000000000 := by first | assumption | omega | (simp; done) | (simp; omega)) (hel : ∀ x ∈ l, x.length ≤ 10000000 := by assumption) : T 91 [aE l, aE l] [vB true] [none, none] := by
  refine w_call md [] Try.func91 rfl ?_
  repeat' ((conv => whnf); (first | refine k0 ?_ | refine jA fun _ => ?_ | refine jB fun _ => ?_ | refine kC (fun _ => ?_) fun _ => ?_ | refine jS ?_ | refine jI ?_ | (apply cx17; refine kl tx17 ?_) | refine jD ?_ | refine ⟨snc, _, snr, ?_⟩ | refine ⟨⟨Nat.le_refl _, rfl⟩, [], rfl, ?_⟩ | refine And.intro ⟨rfl, rfl, by decide, rfl⟩ ?_ | refine jP ?_ | refine jO ?_ | refine jX ?_ | refine jb jr ?_ | refine jb ofs ?_ | refine ko jc ?_ | refine ko jp ?_ | refine jM ?_ | refine kr ?_ | refine ko rfl ?_ | refine And.intro (cs_shal _) ?_ | refine And.intro (rfl : List.all _ _ = true) ?_ | refine And.intro ⟨rfl, (rfl : List.all _ _ = true)⟩ ?_ | exact ⟨rfl, rfl⟩ | exact jV | fail))
  conv => whnf
  refine loopk (ι := Nat) (fun i => i ≤ l.length) (fun i => l.length - i) (0) [0, 1] (fun i => [(5, .v false [i6 i])]) [none, none] ?_
  refine ⟨by omega, ?_, fun i hi => ?_⟩
  · exact jw []
  · refine ⟨fun hlt => ?_, fun hge => ?_⟩
    · have hi2 : i < l.length := by omega
      have he := hel _ (List.getElem_mem hi2)
      repeat' ((conv => whnf); (first | refine k0 ?_ | refine jA fun _ => ?_ | refine jB fun _ => ?_ | refine kC (fun _ => ?_) fun _ => ?_ | refine jS ?_ | refine jI ?_ | (apply cx17; refine kl tx17 ?_) | refine jD ?_ | refine ⟨snc, _, snr, ?_⟩ | refine ⟨⟨Nat.le_refl _, rfl⟩, [], rfl, ?_⟩ | refine And.intro ⟨rfl, rfl, by decide, rfl⟩ ?_ | refine jP ?_ | refine jO ?_ | refine jX ?_ | refine jb jr ?_ | refine jb ofs ?_ | refine ko jc ?_ | refine ko jp ?_ | refine jM ?_ | refine kr ?_ | refine ko rfl ?_ | refine And.intro (cs_shal _) ?_ | refine And.intro (rfl : List.all _ _ = true) ?_ | refine And.intro ⟨rfl, (rfl : List.all _ _ = true)⟩ ?_ | exact ⟨rfl, rfl⟩ | exact jV | fail))
      refine ⟨⟨i + 1, by omega⟩, by simp only; omega, ?_⟩
      exact jw []
    · repeat' ((conv => whnf); (first | refine k0 ?_ | refine jA fun _ => ?_ | refine jB fun _ => ?_ | refine kC (fun _ => ?_) fun _ => ?_ | refine jS ?_ | refine jI ?_ | (apply cx17; refine kl tx17 ?_) | refine jD ?_ | refine ⟨snc, _, snr, ?_⟩ | refine ⟨⟨Nat.le_refl _, rfl⟩, [], rfl, ?_⟩ | refine And.intro ⟨rfl, rfl, by decide, rfl⟩ ?_ | refine jP ?_ | refine jO ?_ | refine jX ?_ | refine jb jr ?_ | refine jb ofs ?_ | refine ko jc ?_ | refine ko jp ?_ | refine jM ?_ | refine kr ?_ | refine ko rfl ?_ | refine And.intro (cs_shal _) ?_ | refine And.intro (rfl : List.all _ _ = true) ?_ | refine And.intro ⟨rfl, (rfl : List.all _ _ = true)⟩ ?_ | exact ⟨rfl, rfl⟩ | exact jV | fail))

theorem cx91 {P : Program} {X : FuncId → List Arg → List (Bool × List Cell) → List (Option (List Cell)) → Prop} {a : List Arg} {Q : List (Bool × List Cell) → List (Option (List Cell)) → Prop} (h : ∃ b vals outs, a = b ∧ D P X (.call 91 b vals outs) ∧ Q vals outs) : CallS P X 91 a Q := ⟨h⟩

set_option maxRecDepth 100000 in
theorem tx92 {l : List Wri} (hl : l.length ≤ 1000000000000 := by first | assumption | omega | (simp; done) | (simp; omega)) (hel : ∀ x ∈ l, x.b.length ≤ 10000000 := by assumption) : T 92 [aE l, aE l] [vB true] [none, none] := by
  refine w_call md [] Try.func92 rfl ?_
  repeat' ((conv => whnf); (first | refine k0 ?_ | refine jA fun _ => ?_ | refine jB fun _ => ?_ | refine kC (fun _ => ?_) fun _ => ?_ | refine jS ?_ | refine jI ?_ | (apply cx144; refine kl tx144 ?_) | refine jD ?_ | refine ⟨snc, _, snr, ?_⟩ | refine ⟨⟨Nat.le_refl _, rfl⟩, [], rfl, ?_⟩ | refine And.intro ⟨rfl, rfl, by decide, rfl⟩ ?_ | refine jP ?_ | refine jO ?_ | refine jX ?_ | refine jb jr ?_ | refine jb ofs ?_ | refine ko jc ?_ | refine ko jp ?_ | refine jM ?_ | refine kr ?_ | refine ko rfl ?_ | refine And.intro (cs_shal _) ?_ | refine And.intro (rfl : List.all _ _ = true) ?_ | refine And.intro ⟨rfl, (rfl : List.all _ _ = true)⟩ ?_ | exact ⟨rfl, rfl⟩ | exact jV | fail))
  conv => whnf
  refine loopk (ι := Nat) (fun i => i ≤ l.length) (fun i => l.length - i) (0) [0, 1] (fun i => [(5, .v false [i6 i])]) [none, none] ?_
  refine ⟨by omega, ?_, fun i hi => ?_⟩
  · exact jw []
  · refine ⟨fun hlt => ?_, fun hge => ?_⟩
    · have hi2 : i < l.length := by omega
      have he := hel _ (List.getElem_mem hi2)
      repeat' ((conv => whnf); (first | refine k0 ?_ | refine jA fun _ => ?_ | refine jB fun _ => ?_ | refine kC (fun _ => ?_) fun _ => ?_ | refine jS ?_ | refine jI ?_ | (apply cx144; refine kl tx144 ?_) | refine jD ?_ | refine ⟨snc, _, snr, ?_⟩ | refine ⟨⟨Nat.le_refl _, rfl⟩, [], rfl, ?_⟩ | refine And.intro ⟨rfl, rfl, by decide, rfl⟩ ?_ | refine jP ?_ | refine jO ?_ | refine jX ?_ | refine jb jr ?_ | refine jb ofs ?_ | refine ko jc ?_ | refine ko jp ?_ | refine jM ?_ | refine kr ?_ | refine ko rfl ?_ | refine And.intro (cs_shal _) ?_ | refine And.intro (rfl : List.all _ _ = true) ?_ | refine And.intro ⟨rfl, (rfl : List.all _ _ = true)⟩ ?_ | exact ⟨rfl, rfl⟩ | exact jV | fail))
      refine ⟨⟨i + 1, by omega⟩, by simp only; omega, ?_⟩
      exact jw []
    · repeat' ((conv => whnf); (first | refine k0 ?_ | refine jA fun _ => ?_ | refine jB fun _ => ?_ | refine kC (fun _ => ?_) fun _ => ?_ | refine jS ?_ | refine jI ?_ | (apply cx144; refine kl tx144 ?_) | refine jD ?_ | refine ⟨snc, _, snr, ?_⟩ | refine ⟨⟨Nat.le_refl _, rfl⟩, [], rfl, ?_⟩ | refine And.intro ⟨rfl, rfl, by decide, rfl⟩ ?_ | refine jP ?_ | refine jO ?_ | refine jX ?_ | refine jb jr ?_ | refine jb ofs ?_ | refine ko jc ?_ | refine ko jp ?_ | refine jM ?_ | refine kr ?_ | refine ko rfl ?_ | refine And.intro (cs_shal _) ?_ | refine And.intro (rfl : List.all _ _ = true) ?_ | refine And.intro ⟨rfl, (rfl : List.all _ _ = true)⟩ ?_ | exact ⟨rfl, rfl⟩ | exact jV | fail))

theorem cx92 {P : Program} {X : FuncId → List Arg → List (Bool × List Cell) → List (Option (List Cell)) → Prop} {a : List Arg} {Q : List (Bool × List Cell) → List (Option (List Cell)) → Prop} (h : ∃ b vals outs, a = b ∧ D P X (.call 92 b vals outs) ∧ Q vals outs) : CallS P X 92 a Q := ⟨h⟩

set_option maxRecDepth 100000 in
theorem tx108 {l : List Fre} (hl : l.length ≤ 1000000000000 := by first | assumption | omega | (simp; done) | (simp; omega)) (hel : ∀ x ∈ l, OkN x.x := by assumption) : T 108 [aE l, aE l] [vB true] [none, none] := by
  refine w_call md [] Try.func108 rfl ?_
  repeat' ((conv => whnf); (first | refine k0 ?_ | refine jA fun _ => ?_ | refine jB fun _ => ?_ | refine kC (fun _ => ?_) fun _ => ?_ | refine jS ?_ | refine jI ?_ | (apply cx149; refine kl tx149 ?_) | refine jD ?_ | refine ⟨snc, _, snr, ?_⟩ | refine ⟨⟨Nat.le_refl _, rfl⟩, [], rfl, ?_⟩ | refine And.intro ⟨rfl, rfl, by decide, rfl⟩ ?_ | refine jP ?_ | refine jO ?_ | refine jX ?_ | refine jb jr ?_ | refine jb ofs ?_ | refine ko jc ?_ | refine ko jp ?_ | refine jM ?_ | refine kr ?_ | refine ko rfl ?_ | refine And.intro (cs_shal _) ?_ | refine And.intro (rfl : List.all _ _ = true) ?_ | refine And.intro ⟨rfl, (rfl : List.all _ _ = true)⟩ ?_ | exact ⟨rfl, rfl⟩ | exact jV | fail))
  conv => whnf
  refine loopk (ι := Nat) (fun i => i ≤ l.length) (fun i => l.length - i) (0) [0, 1] (fun i => [(5, .v false [i6 i])]) [none, none] ?_
  refine ⟨by omega, ?_, fun i hi => ?_⟩
  · exact jw []
  · refine ⟨fun hlt => ?_, fun hge => ?_⟩
    · have hi2 : i < l.length := by omega
      have he := hel _ (List.getElem_mem hi2)
      repeat' ((conv => whnf); (first | refine k0 ?_ | refine jA fun _ => ?_ | refine jB fun _ => ?_ | refine kC (fun _ => ?_) fun _ => ?_ | refine jS ?_ | refine jI ?_ | (apply cx149; refine kl tx149 ?_) | refine jD ?_ | refine ⟨snc, _, snr, ?_⟩ | refine ⟨⟨Nat.le_refl _, rfl⟩, [], rfl, ?_⟩ | refine And.intro ⟨rfl, rfl, by decide, rfl⟩ ?_ | refine jP ?_ | refine jO ?_ | refine jX ?_ | refine jb jr ?_ | refine jb ofs ?_ | refine ko jc ?_ | refine ko jp ?_ | refine jM ?_ | refine kr ?_ | refine ko rfl ?_ | refine And.intro (cs_shal _) ?_ | refine And.intro (rfl : List.all _ _ = true) ?_ | refine And.intro ⟨rfl, (rfl : List.all _ _ = true)⟩ ?_ | exact ⟨rfl, rfl⟩ | exact jV | fail))
      refine ⟨⟨i + 1, by omega⟩, by simp only; omega, ?_⟩
      exact jw []
    · repeat' ((conv => whnf); (first | refine k0 ?_ | refine jA fun _ => ?_ | refine jB fun _ => ?_ | refine kC (fun _ => ?_) fun _ => ?_ | refine jS ?_ | refine jI ?_ | (apply cx149; refine kl tx149 ?_) | refine jD ?_ | refine ⟨snc, _, snr, ?_⟩ | refine ⟨⟨Nat.le_refl _, rfl⟩, [], rfl, ?_⟩ | refine And.intro ⟨rfl, rfl, by decide, rfl⟩ ?_ | refine jP ?_ | refine jO ?_ | refine jX ?_ | refine jb jr ?_ | refine jb ofs ?_ | refine ko jc ?_ | refine ko jp ?_ | refine jM ?_ | refine kr ?_ | refine ko rfl ?_ | refine And.intro (cs_shal _) ?_ | refine And.intro (rfl : List.all _ _ = true) ?_ | refine And.intro ⟨rfl, (rfl : List.all _ _ = true)⟩ ?_ | exact ⟨rfl, rfl⟩ | exact jV | fail))

theorem cx108 {P : Program} {X : FuncId → List Arg → List (Bool × List Cell) → List (Option (List Cell)) → Prop} {a : List Arg} {Q : List (Bool × List Cell) → List (Option (List Cell)) → Prop} (h : ∃ b vals outs, a = b ∧ D P X (.call 108 b vals outs) ∧ Q vals outs) : CallS P X 108 a Q := ⟨h⟩

set_option maxRecDepth 100000 in
theorem tx42 {l : List Fau} (hl : l.length ≤ 1000000000000 := by first | assumption | omega | (simp; done) | (simp; omega)) : T 42 [aE l, aE l] [vB true] [none, none] := by
  refine w_call md [] Try.func42 rfl ?_
  repeat' ((conv => whnf); (first | refine k0 ?_ | refine jA fun _ => ?_ | refine jB fun _ => ?_ | refine kC (fun _ => ?_) fun _ => ?_ | refine jS ?_ | refine jI ?_ | (apply cx101; refine kl tx101 ?_) | refine jD ?_ | refine ⟨snc, _, snr, ?_⟩ | refine ⟨⟨Nat.le_refl _, rfl⟩, [], rfl, ?_⟩ | refine And.intro ⟨rfl, rfl, by decide, rfl⟩ ?_ | refine jP ?_ | refine jO ?_ | refine jX ?_ | refine jb jr ?_ | refine jb ofs ?_ | refine ko jc ?_ | refine ko jp ?_ | refine jM ?_ | refine kr ?_ | refine ko rfl ?_ | refine And.intro (cs_shal _) ?_ | refine And.intro (rfl : List.all _ _ = true) ?_ | refine And.intro ⟨rfl, (rfl : List.all _ _ = true)⟩ ?_ | exact ⟨rfl, rfl⟩ | exact jV | fail))
  conv => whnf
  refine loopk (ι := Nat) (fun i => i ≤ l.length) (fun i => l.length - i) (0) [0, 1] (fun i => [(5, .v false [i6 i])]) [none, none] ?_
  refine ⟨by omega, ?_, fun i hi => ?_⟩
  · exact jw []
  · refine ⟨fun hlt => ?_, fun hge => ?_⟩
    · have hi2 : i < l.length := by omega
      repeat' ((conv => whnf); (first | refine k0 ?_ | refine jA fun _ => ?_ | refine jB fun _ => ?_ | refine kC (fun _ => ?_) fun _ => ?_ | refine jS ?_ | refine jI ?_ | (apply cx101; refine kl tx101 ?_) | refine jD ?_ | refine ⟨snc, _, snr, ?_⟩ | refine ⟨⟨Nat.le_refl _, rfl⟩, [], rfl, ?_⟩ | refine And.intro ⟨rfl, rfl, by decide, rfl⟩ ?_ | refine jP ?_ | refine jO ?_ | refine jX ?_ | refine jb jr ?_ | refine jb ofs ?_ | refine ko jc ?_ | refine ko jp ?_ | refine jM ?_ | refine kr ?_ | refine ko rfl ?_ | refine And.intro (cs_shal _) ?_ | refine And.intro (rfl : List.all _ _ = true) ?_ | refine And.intro ⟨rfl, (rfl : List.all _ _ = true)⟩ ?_ | exact ⟨rfl, rfl⟩ | exact jV | fail))
      refine ⟨⟨i + 1, by omega⟩, by simp only; omega, ?_⟩
      exact jw []
    · repeat' ((conv => whnf); (first | refine k0 ?_ | refine jA fun _ => ?_ | refine jB fun _ => ?_ | refine kC (fun _ => ?_) fun _ => ?_ | refine jS ?_ | refine jI ?_ | (apply cx101; refine kl tx101 ?_) | refine jD ?_ | refine ⟨snc, _, snr, ?_⟩ | refine ⟨⟨Nat.le_refl _, rfl⟩, [], rfl, ?_⟩ | refine And.intro ⟨rfl, rfl, by decide, rfl⟩ ?_ | refine jP ?_ | refine jO ?_ | refine jX ?_ | refine jb jr ?_ | refine jb ofs ?_ | refine ko jc ?_ | refine ko jp ?_ | refine jM ?_ | refine kr ?_ | refine ko rfl ?_ | refine And.intro (cs_shal _) ?_ | refine And.intro (rfl : List.all _ _ = true) ?_ | refine And.intro ⟨rfl, (rfl : List.all _ _ = true)⟩ ?_ | exact ⟨rfl, rfl⟩ | exact jV | fail))

theorem cx42 {P : Program} {X : FuncId → List Arg → List (Bool × List Cell) → List (Option (List Cell)) → Prop} {a : List Arg} {Q : List (Bool × List Cell) → List (Option (List Cell)) → Prop} (h : ∃ b vals outs, a = b ∧ D P X (.call 42 b vals outs) ∧ Q vals outs) : CallS P X 42 a Q := ⟨h⟩

set_option maxRecDepth 100000 in
theorem tx65 {l : List Pai} (hl : l.length ≤ 10000000000000 := by first | assumption | omega | (simp; done) | (simp; omega)) : T 65 [aE l, aE l] [vB true] [none, none] := by
  refine w_call md [] Try.func65 rfl ?_
  repeat' ((conv => whnf); (first | refine k0 ?_ | refine jA fun _ => ?_ | refine jB fun _ => ?_ | refine kC (fun _ => ?_) fun _ => ?_ | refine jS ?_ | refine jI ?_ | (apply cx127; refine kl tx127 ?_) | refine jD ?_ | refine ⟨snc, _, snr, ?_⟩ | refine ⟨⟨Nat.le_refl _, rfl⟩, [], rfl, ?_⟩ | refine And.intro ⟨rfl, rfl, by decide, rfl⟩ ?_ | refine jP ?_ | refine jO ?_ | refine jX ?_ | refine jb jr ?_ | refine jb ofs ?_ | refine ko jc ?_ | refine ko jp ?_ | refine jM ?_ | refine kr ?_ | refine ko rfl ?_ | refine And.intro (cs_shal _) ?_ | refine And.intro (rfl : List.all _ _ = true) ?_ | refine And.intro ⟨rfl, (rfl : List.all _ _ = true)⟩ ?_ | exact ⟨rfl, rfl⟩ | exact jV | fail))
  conv => whnf
  refine loopk (ι := Nat) (fun i => i ≤ l.length) (fun i => l.length - i) (0) [0, 1] (fun i => [(5, .v false [i6 i])]) [none, none] ?_
  refine ⟨by omega, ?_, fun i hi => ?_⟩
  · exact jw []
  · refine ⟨fun hlt => ?_, fun hge => ?_⟩
    · have hi2 : i < l.length := by omega
      repeat' ((conv => whnf); (first | refine k0 ?_ | refine jA fun _ => ?_ | refine jB fun _ => ?_ | refine kC (fun _ => ?_) fun _ => ?_ | refine jS ?_ | refine jI ?_ | (apply cx127; refine kl tx127 ?_) | refine jD ?_ | refine ⟨snc, _, snr, ?_⟩ | refine ⟨⟨Nat.le_refl _, rfl⟩, [], rfl, ?_⟩ | refine And.intro ⟨rfl, rfl, by decide, rfl⟩ ?_ | refine jP ?_ | refine jO ?_ | refine jX ?_ | refine jb jr ?_ | refine jb ofs ?_ | refine ko jc ?_ | refine ko jp ?_ | refine jM ?_ | refine kr ?_ | refine ko rfl ?_ | refine And.intro (cs_shal _) ?_ | refine And.intro (rfl : List.all _ _ = true) ?_ | refine And.intro ⟨rfl, (rfl : List.all _ _ = true)⟩ ?_ | exact ⟨rfl, rfl⟩ | exact jV | fail))
      refine ⟨⟨i + 1, by omega⟩, by simp only; omega, ?_⟩
      exact jw []
    · repeat' ((conv => whnf); (first | refine k0 ?_ | refine jA fun _ => ?_ | refine jB fun _ => ?_ | refine kC (fun _ => ?_) fun _ => ?_ | refine jS ?_ | refine jI ?_ | (apply cx127; refine kl tx127 ?_) | refine jD ?_ | refine ⟨snc, _, snr, ?_⟩ | refine ⟨⟨Nat.le_refl _, rfl⟩, [], rfl, ?_⟩ | refine And.intro ⟨rfl, rfl, by decide, rfl⟩ ?_ | refine jP ?_ | refine jO ?_ | refine jX ?_ | refine jb jr ?_ | refine jb ofs ?_ | refine ko jc ?_ | refine ko jp ?_ | refine jM ?_ | refine kr ?_ | refine ko rfl ?_ | refine And.intro (cs_shal _) ?_ | refine And.intro (rfl : List.all _ _ = true) ?_ | refine And.intro ⟨rfl, (rfl : List.all _ _ = true)⟩ ?_ | exact ⟨rfl, rfl⟩ | exact jV | fail))

theorem cx65 {P : Program} {X : FuncId → List Arg → List (Bool × List Cell) → List (Option (List Cell)) → Prop} {a : List Arg} {Q : List (Bool × List Cell) → List (Option (List Cell)) → Prop} (h : ∃ b vals outs, a = b ∧ D P X (.call 65 b vals outs) ∧ Q vals outs) : CallS P X 65 a Q := ⟨h⟩

set_option maxRecDepth 100000 in
theorem tx35 {d : Dsk} (hd : OkD d := by first | assumption | omega | (simp; done) | (simp; omega)) : T 35 [.val true (dskC false d), .val true (dskC false d)] [vB true] [none, none] := by
  obtain ⟨h1, h2, h3, h4, h5⟩ := hd
  obtain ⟨secs, cache, ops, faults, down⟩ := d
  dsimp only [dskC] at h1 h2 h3 h4 h5 ⊢
  refine w_call md [] Try.func35 rfl ?_
  cases down
  · repeat' ((conv => whnf); (first | refine k0 ?_ | refine jA fun _ => ?_ | refine jB fun _ => ?_ | refine kC (fun _ => ?_) fun _ => ?_ | refine jS ?_ | refine jI ?_ | (apply cx91; refine kl tx91 ?_) | (apply cx92; refine kl tx92 ?_) | (apply cx42; refine kl tx42 ?_) | refine jD ?_ | refine ⟨snc, _, snr, ?_⟩ | refine ⟨⟨Nat.le_refl _, rfl⟩, [], rfl, ?_⟩ | refine And.intro ⟨rfl, rfl, by decide, rfl⟩ ?_ | refine jP ?_ | refine jO ?_ | refine jX ?_ | refine jb jr ?_ | refine jb ofs ?_ | refine ko jc ?_ | refine ko jp ?_ | refine jM ?_ | refine kr ?_ | refine ko rfl ?_ | refine And.intro (cs_shal _) ?_ | refine And.intro (rfl : List.all _ _ = true) ?_ | refine And.intro ⟨rfl, (rfl : List.all _ _ = true)⟩ ?_ | exact ⟨rfl, rfl⟩ | exact jV | fail))
  · repeat' ((conv => whnf); (first | refine k0 ?_ | refine jA fun _ => ?_ | refine jB fun _ => ?_ | refine kC (fun _ => ?_) fun _ => ?_ | refine jS ?_ | refine jI ?_ | (apply cx91; refine kl tx91 ?_) | (apply cx92; refine kl tx92 ?_) | (apply cx42; refine kl tx42 ?_) | refine jD ?_ | refine ⟨snc, _, snr, ?_⟩ | refine ⟨⟨Nat.le_refl _, rfl⟩, [], rfl, ?_⟩ | refine And.intro ⟨rfl, rfl, by decide, rfl⟩ ?_ | refine jP ?_ | refine jO ?_ | refine jX ?_ | refine jb jr ?_ | refine jb ofs ?_ | refine ko jc ?_ | refine ko jp ?_ | refine jM ?_ | refine kr ?_ | refine ko rfl ?_ | refine And.intro (cs_shal _) ?_ | refine And.intro (rfl : List.all _ _ = true) ?_ | refine And.intro ⟨rfl, (rfl : List.all _ _ = true)⟩ ?_ | exact ⟨rfl, rfl⟩ | exact jV | fail))

theorem cx35 {P : Program} {X : FuncId → List Arg → List (Bool × List Cell) → List (Option (List Cell)) → Prop} {a : List Arg} {Q : List (Bool × List Cell) → List (Option (List Cell)) → Prop} (h : ∃ b vals outs, a = b ∧ D P X (.call 35 b vals outs) ∧ Q vals outs) : CallS P X 35 a Q := ⟨h⟩

set_option maxRecDepth 100000 in
theorem tx33 {d : Dsk} (hd : OkD d := by first | assumption | omega | (simp; done) | (simp; omega)) : T 33 [.val true (dskC false d)] [(true, dskC true d)] [none] := by
  refine w_call md [] Try.func33 rfl ?_
  obtain ⟨h1, h2, h3, h4, h5⟩ := hd
  repeat' ((conv => whnf); (first | refine k0 ?_ | refine jA fun _ => ?_ | refine jB fun _ => ?_ | refine kC (fun _ => ?_) fun _ => ?_ | refine jS ?_ | refine jI ?_ | (apply cx88; refine kl tx88 ?_) | (apply cx89; refine kl tx89 ?_) | (apply cx40; refine kl tx40 ?_) | refine jD ?_ | refine ⟨snc, _, snr, ?_⟩ | refine ⟨⟨Nat.le_refl _, rfl⟩, [], rfl, ?_⟩ | refine And.intro ⟨rfl, rfl, by decide, rfl⟩ ?_ | refine jP ?_ | refine jO ?_ | refine jX ?_ | refine jb jr ?_ | refine jb ofs ?_ | refine ko jc ?_ | refine ko jp ?_ | refine jM ?_ | refine kr ?_ | refine ko rfl ?_ | refine And.intro (cs_shal _) ?_ | refine And.intro (rfl : List.all _ _ = true) ?_ | refine And.intro ⟨rfl, (rfl : List.all _ _ = true)⟩ ?_ | exact ⟨rfl, rfl⟩ | exact jV | fail))

theorem cx33 {P : Program} {X : FuncId → List Arg → List (Bool × List Cell) → List (Option (List Cell)) → Prop} {a : List Arg} {Q : List (Bool × List Cell) → List (Option (List Cell)) → Prop} (h : ∃ b vals outs, a = b ∧ D P X (.call 33 b vals outs) ∧ Q vals outs) : CallS P X 33 a Q := ⟨h⟩

set_option maxRecDepth 100000 in
theorem tx51 {t : Txn} (ht : OkT t := by first | assumption | omega | (simp; done) | (simp; omega)) : T 51 [.val true (txnC false t), .val true (txnC false t)] [vB true] [none, none] := by
  obtain ⟨h1, h2, h3⟩ := ht
  obtain ⟨⟨secs, cache, ops, faults, down⟩, ⟨gen, mroot⟩, root, new⟩ := t
  dsimp only [txnC] at h1 h2 h3 ⊢
  refine w_call md [] Try.func51 rfl ?_
  repeat' ((conv => whnf); (first | (apply cx35; refine kl (tx35 (d := ⟨secs, cache, ops, faults, down⟩)) ?_) | (apply cx23; refine kl (tx23 (f := ⟨gen, mroot⟩)) ?_) | refine k0 ?_ | refine jA fun _ => ?_ | refine jB fun _ => ?_ | refine kC (fun _ => ?_) fun _ => ?_ | refine jS ?_ | refine jI ?_ | (apply cx35; refine kl tx35 ?_) | (apply cx23; refine kl tx23 ?_) | (apply cx108; refine kl tx108 ?_) | refine jD ?_ | refine ⟨snc, _, snr, ?_⟩ | refine ⟨⟨Nat.le_refl _, rfl⟩, [], rfl, ?_⟩ | refine And.intro ⟨rfl, rfl, by decide, rfl⟩ ?_ | refine jP ?_ | refine jO ?_ | refine jX ?_ | refine jb jr ?_ | refine jb ofs ?_ | refine ko jc ?_ | refine ko jp ?_ | refine jM ?_ | refine kr ?_ | refine ko rfl ?_ | refine And.intro (cs_shal _) ?_ | refine And.intro (rfl : List.all _ _ = true) ?_ | refine And.intro ⟨rfl, (rfl : List.all _ _ = true)⟩ ?_ | exact ⟨rfl, rfl⟩ | exact jV | fail))

theorem cx51 {P : Program} {X : FuncId → List Arg → List (Bool × List Cell) → List (Option (List Cell)) → Prop} {a : List Arg} {Q : List (Bool × List Cell) → List (Option (List Cell)) → Prop} (h : ∃ b vals outs, a = b ∧ D P X (.call 51 b vals outs) ∧ Q vals outs) : CallS P X 51 a Q := ⟨h⟩

set_option maxRecDepth 100000 in
theorem tx56 {t : Txn} (ht : OkT t := by first | assumption | omega | (simp; done) | (simp; omega)) : T 56 [.val true (txnC false t)] [(true, txnC true t)] [none] := by
  refine w_call md [] Try.func56 rfl ?_
  obtain ⟨h1, h2, h3⟩ := ht
  repeat' ((conv => whnf); (first | refine k0 ?_ | refine jA fun _ => ?_ | refine jB fun _ => ?_ | refine kC (fun _ => ?_) fun _ => ?_ | refine jS ?_ | refine jI ?_ | (apply cx33; refine kl tx33 ?_) | (apply cx15; refine kl tx15 ?_) | (apply cx114; refine kl tx114 ?_) | refine jD ?_ | refine ⟨snc, _, snr, ?_⟩ | refine ⟨⟨Nat.le_refl _, rfl⟩, [], rfl, ?_⟩ | refine And.intro ⟨rfl, rfl, by decide, rfl⟩ ?_ | refine jP ?_ | refine jO ?_ | refine jX ?_ | refine jb jr ?_ | refine jb ofs ?_ | refine ko jc ?_ | refine ko jp ?_ | refine jM ?_ | refine kr ?_ | refine ko rfl ?_ | refine And.intro (cs_shal _) ?_ | refine And.intro (rfl : List.all _ _ = true) ?_ | refine And.intro ⟨rfl, (rfl : List.all _ _ = true)⟩ ?_ | exact ⟨rfl, rfl⟩ | exact jV | fail))

theorem cx56 {P : Program} {X : FuncId → List Arg → List (Bool × List Cell) → List (Option (List Cell)) → Prop} {a : List Arg} {Q : List (Bool × List Cell) → List (Option (List Cell)) → Prop} (h : ∃ b vals outs, a = b ∧ D P X (.call 56 b vals outs) ∧ Q vals outs) : CallS P X 56 a Q := ⟨h⟩

end Go.Proofs.Ytacfohamlkbpjaa
