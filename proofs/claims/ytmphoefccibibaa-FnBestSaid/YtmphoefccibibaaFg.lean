/- Functions of the program, each with what it gives back. -/
import Derived.Test.YtmphoefccibibaaKe
import Derived.Test.YtmphoefccibibaaChecked
import Derived.IntWalk
import Derived.Test.YtmphoefccibibaaFf
namespace Go.Proofs.Ytmphoefccibibaa
open Go Go.RowKit Go.IntWalk
open Enc (sz cs)
attribute [local irreducible] IntKind.wrap

attribute [local irreducible] gU gT gS gP gM ptP ptM ptS crcN

set_option maxHeartbeats 2000000 in
set_option maxRecDepth 100000 in
theorem tx8 {b : List UInt8} (hb : b.length ≤ 10000000 := by first | assumption | omega | (simp; done) | (simp; omega)) : T 8 [aE b] [(true, metC (gM b).1), vB (gM b).2] [none] := by
  refine w_call md [[], []] Try.func8 rfl ?_
  obtain ⟨h1, h2⟩ := gU_small (gP b).2.1 0
  obtain ⟨h3, h4⟩ := gU_small (gP b).2.1 (gU (gP b).2.1 0).2.1
  have hl := gP_len (b := b)
  have hlm := ptM_len ⟨(gU (gP b).2.1 0).1, (gU (gP b).2.1 (gU (gP b).2.1 0).2.1).1⟩
  cases hg : (gP b).2.2
  all_goals repeat' ((conv => whnf); (first | refine Exists.intro _ (Exists.intro _ (Exists.intro _ (And.intro rfl (And.intro strOf_ro ?_)))) | refine Exists.intro _ (Exists.intro _ (Exists.intro _ (And.intro (srcO (α := UInt8) rfl rfl) (And.intro strOf_cs ?_)))) | (apply cx22; refine kl (tx22 (b := (gP b).2.1) (p := 0)) ?_) | (apply cx23; refine kl (tx23 (m := ⟨(gU (gP b).2.1 0).1, (gU (gP b).2.1 (gU (gP b).2.1 0).2.1).1⟩)) ?_) | (apply cx21; refine kl (tx21 (b := b) (o := true)) ?_) | (apply cx21; refine kl (tx21 (b := b) (o := false)) ?_) | refine k0 ?_ | refine jA fun _ => ?_ | refine jB fun _ => ?_ | refine kC (fun _ => ?_) fun _ => ?_ | refine jS ?_ | refine jI ?_ | (apply cx21; refine kl tx21 ?_) | (apply cx22; refine kl tx22 ?_) | (apply cx23; refine kl tx23 ?_) | refine jD ?_ | refine ⟨snc, _, snr, ?_⟩ | refine ⟨⟨Nat.le_refl _, rfl⟩, [], rfl, ?_⟩ | refine And.intro ⟨rfl, rfl, by decide, rfl⟩ ?_ | refine jP ?_ | refine jO ?_ | refine jX ?_ | refine jb jr ?_ | refine jb ofs ?_ | refine ko jc ?_ | refine ko jp ?_ | refine jM ?_ | refine kr ?_ | refine ko rfl ?_ | refine And.intro (cs_shal _) ?_ | refine And.intro (rfl : List.all _ _ = true) ?_ | refine And.intro ⟨rfl, (rfl : List.all _ _ = true)⟩ ?_ | exact ⟨rfl, rfl⟩ | exact jV | fail))
  all_goals first
    | exact ⟨by rw [gM_no (fun q => absurd (q.1.symm.trans ‹(gP b).2.2 = false›) (by decide))]; rfl, rfl⟩
    | exact ⟨by rw [gM_no (fun q => absurd (q.2.1.symm.trans ‹(gU (gP b).2.1 0).2.2 = false›) (by decide))]; rfl, rfl⟩
    | exact ⟨by rw [gM_no (fun q => absurd (q.2.2.1.symm.trans ‹(gU (gP b).2.1 (gU (gP b).2.1 0).2.1).2.2 = false›) (by decide))]; rfl, rfl⟩
    | exact ⟨by rw [gM_no (fun q => (‹_ ≠ (sb b).toList› : _) (by rw [q.2.2.2]))]; rfl, rfl⟩
    | exact ⟨by rw [gM_yes ‹_› ‹_› ‹_› (bl_eq (Classical.not_not.1 ‹¬ (_ ≠ (sb b).toList)›))]; rfl, rfl⟩

theorem cx8 {P : Program} {X : FuncId → List Arg → List (Bool × List Cell) → List (Option (List Cell)) → Prop} {a : List Arg} {Q : List (Bool × List Cell) → List (Option (List Cell)) → Prop} (h : ∃ b vals outs, a = b ∧ D P X (.call 8 b vals outs) ∧ Q vals outs) : CallS P X 8 a Q := ⟨h⟩

set_option maxHeartbeats 2000000 in
set_option maxRecDepth 100000 in
theorem tx27 {b : List UInt8} (hb : b.length ≤ 10000000 := by first | assumption | omega | (simp; done) | (simp; omega)) : T 27 [aE b] [(true, metC (gM b).1), vB (gM b).2] [none] := by
  refine w_call md [[], []] Try.func27 rfl ?_
  obtain ⟨h1, h2⟩ := gU_small (gP b).2.1 0
  obtain ⟨h3, h4⟩ := gU_small (gP b).2.1 (gU (gP b).2.1 0).2.1
  have hl := gP_len (b := b)
  cases hg : (gP b).2.2
  all_goals repeat' ((conv => whnf); (first | (apply cx45; refine kl (tx45 (b := (gP b).2.1) (p := 0)) ?_) | (apply cx33; refine kl (tx33 (m := ⟨(gU (gP b).2.1 0).1, (gU (gP b).2.1 (gU (gP b).2.1 0).2.1).1⟩)) ?_) | (apply cx44; refine kl (tx44 (b := b) (o := true)) ?_) | (apply cx44; refine kl (tx44 (b := b) (o := false)) ?_) | refine k0 ?_ | refine jA fun _ => ?_ | refine jB fun _ => ?_ | refine kC (fun _ => ?_) fun _ => ?_ | refine jS ?_ | refine jI ?_ | (apply cx44; refine kl tx44 ?_) | (apply cx45; refine kl tx45 ?_) | (apply cx33; refine kl tx33 ?_) | refine jD ?_ | refine ⟨snc, _, snr, ?_⟩ | refine ⟨⟨Nat.le_refl _, rfl⟩, [], rfl, ?_⟩ | refine And.intro ⟨rfl, rfl, by decide, rfl⟩ ?_ | refine jP ?_ | refine jO ?_ | refine jX ?_ | refine jb jr ?_ | refine jb ofs ?_ | refine ko jc ?_ | refine ko jp ?_ | refine jM ?_ | refine kr ?_ | refine ko rfl ?_ | refine And.intro (cs_shal _) ?_ | refine And.intro (rfl : List.all _ _ = true) ?_ | refine And.intro ⟨rfl, (rfl : List.all _ _ = true)⟩ ?_ | exact ⟨rfl, rfl⟩ | exact jV | fail))
  all_goals first
    | exact ⟨by rw [gM_no (fun q => absurd (q.1.symm.trans ‹(gP b).2.2 = false›) (by decide))]; rfl, rfl⟩
    | exact ⟨by rw [gM_no (fun q => absurd (q.2.1.symm.trans ‹(gU (gP b).2.1 0).2.2 = false›) (by decide))]; rfl, rfl⟩
    | exact ⟨by rw [gM_no (fun q => absurd (q.2.2.1.symm.trans ‹(gU (gP b).2.1 (gU (gP b).2.1 0).2.1).2.2 = false›) (by decide))]; rfl, rfl⟩
    | exact ⟨by rw [gM_no (fun q => by have := (gM_iff ‹_› ‹_› ‹_›).2 q.2.2.2; omega)]; rfl, rfl⟩
    | exact ⟨by rw [gM_no (fun q => by have := (gM_iff ‹_› ‹_› ‹_›).2 q.2.2.2; exact absurd (this.2.2.symm.trans ‹metaOk _ = false›) (by decide))]; rfl, rfl⟩
    | exact ⟨by have q := (gM_iff ‹_› ‹_› ‹_›).1 ⟨by omega, by omega, ‹_›⟩; rw [gM_yes ‹_› ‹_› ‹_› q]; rfl, rfl⟩

theorem cx27 {P : Program} {X : FuncId → List Arg → List (Bool × List Cell) → List (Option (List Cell)) → Prop} {a : List Arg} {Q : List (Bool × List Cell) → List (Option (List Cell)) → Prop} (h : ∃ b vals outs, a = b ∧ D P X (.call 27 b vals outs) ∧ Q vals outs) : CallS P X 27 a Q := ⟨h⟩

end Go.Proofs.Ytmphoefccibibaa
