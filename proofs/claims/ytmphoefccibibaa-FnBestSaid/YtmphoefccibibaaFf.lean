/- Functions of the program, each with what it gives back. -/
import Derived.Test.YtmphoefccibibaaKe
import Derived.Test.YtmphoefccibibaaChecked
import Derived.IntWalk
import Derived.Test.YtmphoefccibibaaFe
namespace Go.Proofs.Ytmphoefccibibaa
open Go Go.RowKit Go.IntWalk
open Enc (sz cs)
attribute [local irreducible] IntKind.wrap

attribute [local irreducible] gU gT gS gP gM ptP ptM ptS crcN

set_option maxRecDepth 100000 in
theorem tx21 {b : List UInt8} {o : Bool} (hb : b.length ≤ 10000000 := by first | assumption | omega | (simp; done) | (simp; omega)) (ho : (gP b).2.2 = !o := by assumption) : T 21 [aE b] [vI (gP b).1, (false, [.sl o (gP b).2.1.length 1 (cs true (gP b).2.1)]), vB (gP b).2.2] [none] := by
  refine w_call md [[], [1]] Try.func21 rfl ?_
  obtain ⟨h1, h2⟩ := gU_small (gS b).1 0
  have hl := gS_len (b := b)
  have hl2 := gT_len (b := (gS b).1) (p := (gU (gS b).1 0).2.1)
  have hlp := ptP_len (gU (gS b).1 0).1 (gT (gS b).1 (gU (gS b).1 0).2.1).1
  repeat' ((conv => whnf); (first | refine Exists.intro _ (Exists.intro _ (Exists.intro _ (And.intro rfl (And.intro strOf_ro ?_)))) | refine Exists.intro _ (Exists.intro _ (Exists.intro _ (And.intro (srcO (α := UInt8) rfl rfl) (And.intro strOf_cs ?_)))) | refine Exists.intro _ (Exists.intro _ (And.intro (sb_len _) (And.intro (byteC_sb _) ?_))) | (apply cx22; refine kl (tx22 (b := (gS b).1) (p := 0)) ?_) | refine k0 ?_ | refine jA fun _ => ?_ | refine jB fun _ => ?_ | refine kC (fun _ => ?_) fun _ => ?_ | refine jS ?_ | refine jI ?_ | (apply cx36; refine kl tx36 ?_) | (apply cx22; refine kl tx22 ?_) | (apply cx37; refine kl tx37 ?_) | (apply cx38; refine kl tx38 ?_) | refine jD ?_ | refine ⟨snc, _, snr, ?_⟩ | refine ⟨⟨Nat.le_refl _, rfl⟩, [], rfl, ?_⟩ | refine And.intro ⟨rfl, rfl, by decide, rfl⟩ ?_ | refine jP ?_ | refine jO ?_ | refine jX ?_ | refine jb jr ?_ | refine jb ofs ?_ | refine ko jc ?_ | refine ko jp ?_ | refine jM ?_ | refine kr ?_ | refine ko rfl ?_ | refine And.intro (cs_shal _) ?_ | refine And.intro (rfl : List.all _ _ = true) ?_ | refine And.intro ⟨rfl, (rfl : List.all _ _ = true)⟩ ?_ | exact ⟨rfl, rfl⟩ | exact jV | fail))
  all_goals first
    | (have e := gP_no (b := b) (fun q => absurd (q.1.symm.trans ‹(gS b).2 = false›) (by decide)); rw [e] at ho ⊢; obtain rfl : o = true := (by simpa using ho); exact ⟨rfl, rfl⟩)
    | (have e := gP_no (b := b) (fun q => absurd (q.2.1.symm.trans ‹(gU (gS b).1 0).2.2 = false›) (by decide)); rw [e] at ho ⊢; obtain rfl : o = true := (by simpa using ho); exact ⟨rfl, rfl⟩)
    | (have e := gP_no (b := b) (fun q => absurd (q.2.2.1.symm.trans ‹(gT (gS b).1 (gU (gS b).1 0).2.1).2.2 = false›) (by decide)); rw [e] at ho ⊢; obtain rfl : o = true := (by simpa using ho); exact ⟨rfl, rfl⟩)
    | (have e := gP_no (b := b) (fun q => absurd q.2.2.2.1 (by omega)); rw [e] at ho ⊢; obtain rfl : o = true := (by simpa using ho); exact ⟨rfl, rfl⟩)
    | (have e := gP_no (b := b) (fun q => (‹_ ≠ (sb b).toList› : _) (by rw [q.2.2.2.2])); rw [e] at ho ⊢; obtain rfl : o = true := (by simpa using ho); exact ⟨rfl, rfl⟩)
    | (have e := gP_yes (b := b) ‹_› ‹_› ‹_› (by omega) (bl_eq (Classical.not_not.1 ‹¬ (_ ≠ (sb b).toList)›)); rw [e] at ho ⊢; obtain rfl : o = false := (by simpa using ho); exact ⟨rfl, rfl⟩)

theorem cx21 {P : Program} {X : FuncId → List Arg → List (Bool × List Cell) → List (Option (List Cell)) → Prop} {a : List Arg} {Q : List (Bool × List Cell) → List (Option (List Cell)) → Prop} (h : ∃ b vals outs, a = b ∧ D P X (.call 21 b vals outs) ∧ Q vals outs) : CallS P X 21 a Q := ⟨h⟩

set_option maxRecDepth 100000 in
theorem tx44 {b : List UInt8} {o : Bool} (hb : b.length ≤ 10000000 := by first | assumption | omega | (simp; done) | (simp; omega)) (ho : (gP b).2.2 = !o := by assumption) : T 44 [aE b] [vI (gP b).1, (false, [.sl o (gP b).2.1.length 1 (cs true (gP b).2.1)]), vB (gP b).2.2] [none] := by
  refine w_call md [[], [1]] Try.func44 rfl ?_
  obtain ⟨h1, h2⟩ := gU_small (gS b).1 0
  have hl := gS_len (b := b)
  have hl2 := gT_len (b := (gS b).1) (p := (gU (gS b).1 0).2.1)
  have hsl : (sb (gT (gS b).1 (gU (gS b).1 0).2.1).1).size = (gT (gS b).1 (gU (gS b).1 0).2.1).1.length := sb_len _
  repeat' ((conv => whnf); (first | refine Exists.intro _ (Exists.intro _ (And.intro (sb_len _) (And.intro (byteC_sb _) ?_))) | (apply cx45; refine kl (tx45 (b := (gS b).1) (p := 0)) ?_) | refine k0 ?_ | refine jA fun _ => ?_ | refine jB fun _ => ?_ | refine kC (fun _ => ?_) fun _ => ?_ | refine jS ?_ | refine jI ?_ | (apply cx58; refine kl tx58 ?_) | (apply cx45; refine kl tx45 ?_) | (apply cx59; refine kl tx59 ?_) | (apply cx43; refine kl tx43 ?_) | refine jD ?_ | refine ⟨snc, _, snr, ?_⟩ | refine ⟨⟨Nat.le_refl _, rfl⟩, [], rfl, ?_⟩ | refine And.intro ⟨rfl, rfl, by decide, rfl⟩ ?_ | refine jP ?_ | refine jO ?_ | refine jX ?_ | refine jb jr ?_ | refine jb ofs ?_ | refine ko jc ?_ | refine ko jp ?_ | refine jM ?_ | refine kr ?_ | refine ko rfl ?_ | refine And.intro (cs_shal _) ?_ | refine And.intro (rfl : List.all _ _ = true) ?_ | refine And.intro ⟨rfl, (rfl : List.all _ _ = true)⟩ ?_ | exact ⟨rfl, rfl⟩ | exact jV | fail))
  all_goals first
    | (have e := gP_no (b := b) (fun q => absurd (q.1.symm.trans ‹(gS b).2 = false›) (by decide)); rw [e] at ho ⊢; obtain rfl : o = true := (by simpa using ho); exact ⟨rfl, rfl⟩)
    | (have e := gP_no (b := b) (fun q => absurd (q.2.1.symm.trans ‹(gU (gS b).1 0).2.2 = false›) (by decide)); rw [e] at ho ⊢; obtain rfl : o = true := (by simpa using ho); exact ⟨rfl, rfl⟩)
    | (have e := gP_no (b := b) (fun q => absurd (q.2.2.1.symm.trans ‹(gT (gS b).1 (gU (gS b).1 0).2.1).2.2 = false›) (by decide)); rw [e] at ho ⊢; obtain rfl : o = true := (by simpa using ho); exact ⟨rfl, rfl⟩)
    | (have e := gP_no (b := b) (fun q => by have := (gP_iff (b := b) ‹_› ‹_› ‹_›).2 q.2.2.2; omega); rw [e] at ho ⊢; obtain rfl : o = true := (by simpa using ho); exact ⟨rfl, rfl⟩)
    | (have e := gP_no (b := b) (fun q => by have := (gP_iff (b := b) ‹_› ‹_› ‹_›).2 q.2.2.2; exact absurd (this.2.1.symm.trans ‹inB _ _ _ = false›) (by decide)); rw [e] at ho ⊢; obtain rfl : o = true := (by simpa using ho); exact ⟨rfl, rfl⟩)
    | (have q := (gP_iff (b := b) ‹_› ‹_› ‹_›).1 ⟨by omega, ‹_›, by omega⟩; have e := gP_yes (b := b) ‹_› ‹_› ‹_› q.1 q.2; rw [e] at ho ⊢; obtain rfl : o = false := (by simpa using ho); exact ⟨rfl, rfl⟩)

theorem cx44 {P : Program} {X : FuncId → List Arg → List (Bool × List Cell) → List (Option (List Cell)) → Prop} {a : List Arg} {Q : List (Bool × List Cell) → List (Option (List Cell)) → Prop} (h : ∃ b vals outs, a = b ∧ D P X (.call 44 b vals outs) ∧ Q vals outs) : CallS P X 44 a Q := ⟨h⟩

end Go.Proofs.Ytmphoefccibibaa
