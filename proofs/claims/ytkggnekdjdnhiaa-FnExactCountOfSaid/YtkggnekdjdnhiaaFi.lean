/- Functions of the program, each with what it gives back. -/
import Derived.Test.YtkggnekdjdnhiaaKe
import Derived.Test.YtkggnekdjdnhiaaChecked
import Derived.IntWalk
import Derived.Test.YtkggnekdjdnhiaaFh
namespace Go.Proofs.Ytkggnekdjdnhiaa
open Go Go.RowKit Go.IntWalk
open Enc (sz cs)
attribute [local irreducible] IntKind.wrap

attribute [local irreducible] gU gT gS gP gM ptP ptM ptS crcN

set_option maxRecDepth 100000 in
theorem tx64 {d : Dsk} {n : Int} (hd : zD d ≤ 2000000 := by first | assumption | omega | (simp; done) | (simp; omega)) : T 64 [.val true (dskC false d), aI n] [vE (rdS d n).1, vB (rdS d n).2] [none, none] := by
  refine w_call md [[1]] Try.func64 rfl ?_
  have hz : zD d = d.secs.length + cnt List.length d.secs + (d.cache.length + cnt (fun w : Wri => w.b.length) d.cache) + d.faults.length := rfl
  by_cases hn : 0 ≤ n ∧ n < d.secs.length
  · have hin : inB n 0 ((d.secs.length : Int) - 1) = true := inB_iff.2 (by omega)
    obtain ⟨q, rfl⟩ := Int.eq_ofNat_of_zero_le hn.1
    have hq : q < d.secs.length := by omega
    repeat' ((conv => whnf); (first | refine k0 ?_ | refine jA fun _ => ?_ | refine jB fun _ => ?_ | refine kC (fun _ => ?_) fun _ => ?_ | refine jS ?_ | refine jI ?_ | (apply cx67; refine kl tx67 ?_) | (apply cx75; refine kl tx75 ?_) | refine jD ?_ | refine ⟨snc, _, snr, ?_⟩ | refine ⟨⟨Nat.le_refl _, rfl⟩, [], rfl, ?_⟩ | refine And.intro ⟨rfl, rfl, by decide, rfl⟩ ?_ | refine jP ?_ | refine jO ?_ | refine jX ?_ | refine jb jr ?_ | refine jb ofs ?_ | refine ko jc ?_ | refine ko jp ?_ | refine jM ?_ | refine kr ?_ | refine ko rfl ?_ | refine And.intro (cs_shal _) ?_ | refine And.intro (rfl : List.all _ _ = true) ?_ | refine And.intro ⟨rfl, (rfl : List.all _ _ = true)⟩ ?_ | exact ⟨rfl, rfl⟩ | exact jV | fail))
    conv => whnf
    refine loopk (ι := Nat) (fun i => i ≤ d.cache.length ∧ lastW q (d.cache.take i) = lastW q d.cache) (fun i => i) (d.cache.length) [1, 2] (fun i => [(6, .v false [i6 ((i : Int) - 1)])]) [none, none, none] ?_
    refine ⟨⟨Nat.le_refl _, by rw [List.take_length]⟩, ?_, fun i hi => ?_⟩
    · exact jw []
    · repeat' ((conv => whnf); (first | refine k0 ?_ | refine jS ?_ | refine jI ?_ | (apply cx67; refine kl tx67 ?_) | (apply cx75; refine kl tx75 ?_) | refine jD ?_ | refine ⟨snc, _, snr, ?_⟩ | refine ⟨⟨Nat.le_refl _, rfl⟩, [], rfl, ?_⟩ | refine And.intro ⟨rfl, rfl, by decide, rfl⟩ ?_ | refine jP ?_ | refine jO ?_ | refine jX ?_ | refine jb jr ?_ | refine jb ofs ?_ | refine ko jc ?_ | refine ko jp ?_ | refine jM ?_ | refine kr ?_ | refine ko rfl ?_ | refine And.intro (cs_shal _) ?_ | refine And.intro (rfl : List.all _ _ = true) ?_ | refine And.intro ⟨rfl, (rfl : List.all _ _ = true)⟩ ?_ | exact ⟨rfl, rfl⟩ | exact jV | fail))
      conv => whnf
      refine ⟨fun hge => ?_, fun hlt => ?_⟩
      · obtain ⟨m, rfl⟩ : ∃ m, i = m + 1 := ⟨i - 1, by omega⟩
        have hm : m < d.cache.length := by omega
        have hc := cnt_ge (c := fun w : Wri => w.b.length) hm
        have hl := lastW_take (n := (q : Int)) hm
        repeat' ((conv => whnf); (first | refine And.intro ⟨by omega, by omega⟩ (Exists.intro _ (And.intro (rdI (i := m) (by omega) (by omega)) ?_)) | refine k0 ?_ | refine jA fun _ => ?_ | refine jB fun _ => ?_ | refine kC (fun _ => ?_) fun _ => ?_ | refine jS ?_ | refine jI ?_ | (apply cx67; refine kl tx67 ?_) | (apply cx75; refine kl tx75 ?_) | refine jD ?_ | refine ⟨snc, _, snr, ?_⟩ | refine ⟨⟨Nat.le_refl _, rfl⟩, [], rfl, ?_⟩ | refine And.intro ⟨rfl, rfl, by decide, rfl⟩ ?_ | refine jP ?_ | refine jO ?_ | refine jX ?_ | refine jb jr ?_ | refine jb ofs ?_ | refine ko jc ?_ | refine ko jp ?_ | refine jM ?_ | refine kr ?_ | refine ko rfl ?_ | refine And.intro (cs_shal _) ?_ | refine And.intro (rfl : List.all _ _ = true) ?_ | refine And.intro ⟨rfl, (rfl : List.all _ _ = true)⟩ ?_ | exact ⟨rfl, rfl⟩ | exact jV | fail))
        · exact ⟨by rw [rdS_in hn, ← hi.2, hl, if_pos ‹_›]; rfl, rfl⟩
        · refine ⟨⟨m, by omega, by rw [← hi.2, hl, if_neg ‹_›]⟩, by simp only; omega, ?_⟩
          exact jw []
      · obtain rfl : i = 0 := by omega
        have hc := cnt_ge (c := List.length) hq
        repeat' ((conv => whnf); (first | refine k0 ?_ | refine jA fun _ => ?_ | refine jB fun _ => ?_ | refine kC (fun _ => ?_) fun _ => ?_ | refine jS ?_ | refine jI ?_ | (apply cx67; refine kl tx67 ?_) | (apply cx75; refine kl tx75 ?_) | refine jD ?_ | refine ⟨snc, _, snr, ?_⟩ | refine ⟨⟨Nat.le_refl _, rfl⟩, [], rfl, ?_⟩ | refine And.intro ⟨rfl, rfl, by decide, rfl⟩ ?_ | refine jP ?_ | refine jO ?_ | refine jX ?_ | refine jb jr ?_ | refine jb ofs ?_ | refine ko jc ?_ | refine ko jp ?_ | refine jM ?_ | refine kr ?_ | refine ko rfl ?_ | refine And.intro (cs_shal _) ?_ | refine And.intro (rfl : List.all _ _ = true) ?_ | refine And.intro ⟨rfl, (rfl : List.all _ _ = true)⟩ ?_ | exact ⟨rfl, rfl⟩ | exact jV | fail))
        exact ⟨by rw [rdS_in hn, ← hi.2, List.getD_eq_getElem?_getD]; simp [hq, lastW], rfl⟩
  · have hin : inB n 0 ((d.secs.length : Int) - 1) = false := by
      cases h : inB n 0 ((d.secs.length : Int) - 1) with
      | false => rfl
      | true => have := inB_iff.1 h; omega
    repeat' ((conv => whnf); (first | refine k0 ?_ | refine jA fun _ => ?_ | refine jB fun _ => ?_ | refine kC (fun _ => ?_) fun _ => ?_ | refine jS ?_ | refine jI ?_ | (apply cx67; refine kl tx67 ?_) | (apply cx75; refine kl tx75 ?_) | refine jD ?_ | refine ⟨snc, _, snr, ?_⟩ | refine ⟨⟨Nat.le_refl _, rfl⟩, [], rfl, ?_⟩ | refine And.intro ⟨rfl, rfl, by decide, rfl⟩ ?_ | refine jP ?_ | refine jO ?_ | refine jX ?_ | refine jb jr ?_ | refine jb ofs ?_ | refine ko jc ?_ | refine ko jp ?_ | refine jM ?_ | refine kr ?_ | refine ko rfl ?_ | refine And.intro (cs_shal _) ?_ | refine And.intro (rfl : List.all _ _ = true) ?_ | refine And.intro ⟨rfl, (rfl : List.all _ _ = true)⟩ ?_ | exact ⟨rfl, rfl⟩ | exact jV | fail))
    exact ⟨by rw [rdS_out hn]; rfl, rfl⟩

theorem cx64 {P : Program} {X : FuncId → List Arg → List (Bool × List Cell) → List (Option (List Cell)) → Prop} {a : List Arg} {Q : List (Bool × List Cell) → List (Option (List Cell)) → Prop} (h : ∃ b vals outs, a = b ∧ D P X (.call 64 b vals outs) ∧ Q vals outs) : CallS P X 64 a Q := ⟨h⟩

set_option maxRecDepth 100000 in
theorem tx70 {d : Dsk} {n : Int} (hd : zD d ≤ 2000000 := by first | assumption | omega | (simp; done) | (simp; omega)) : T 70 [.val true (dskC false d), aI n] [vE (rdS d n).1, vB (rdS d n).2] [none, none] := by
  refine w_call md [[1]] Try.func70 rfl ?_
  have hz : zD d = d.secs.length + cnt List.length d.secs + (d.cache.length + cnt (fun w : Wri => w.b.length) d.cache) + d.faults.length := rfl
  by_cases hn : 0 ≤ n ∧ n < d.secs.length
  · have hin : inB n 0 ((d.secs.length : Int) - 1) = true := inB_iff.2 (by omega)
    obtain ⟨q, rfl⟩ := Int.eq_ofNat_of_zero_le hn.1
    have hq : q < d.secs.length := by omega
    repeat' ((conv => whnf); (first | refine k0 ?_ | refine jA fun _ => ?_ | refine jB fun _ => ?_ | refine kC (fun _ => ?_) fun _ => ?_ | refine jS ?_ | refine jI ?_ | (apply cx80; refine kl tx80 ?_) | refine jD ?_ | refine ⟨snc, _, snr, ?_⟩ | refine ⟨⟨Nat.le_refl _, rfl⟩, [], rfl, ?_⟩ | refine And.intro ⟨rfl, rfl, by decide, rfl⟩ ?_ | refine jP ?_ | refine jO ?_ | refine jX ?_ | refine jb jr ?_ | refine jb ofs ?_ | refine ko jc ?_ | refine ko jp ?_ | refine jM ?_ | refine kr ?_ | refine ko rfl ?_ | refine And.intro (cs_shal _) ?_ | refine And.intro (rfl : List.all _ _ = true) ?_ | refine And.intro ⟨rfl, (rfl : List.all _ _ = true)⟩ ?_ | exact ⟨rfl, rfl⟩ | exact jV | fail))
    conv => whnf
    refine loopk (ι := Nat) (fun i => i ≤ d.cache.length ∧ lastW q (d.cache.take i) = lastW q d.cache) (fun i => i) (d.cache.length) [1, 2] (fun i => [(6, .v false [i6 ((i : Int) - 1)])]) [none, none, none] ?_
    refine ⟨⟨Nat.le_refl _, by rw [List.take_length]⟩, ?_, fun i hi => ?_⟩
    · exact jw []
    · repeat' ((conv => whnf); (first | refine k0 ?_ | refine jS ?_ | refine jI ?_ | (apply cx80; refine kl tx80 ?_) | refine jD ?_ | refine ⟨snc, _, snr, ?_⟩ | refine ⟨⟨Nat.le_refl _, rfl⟩, [], rfl, ?_⟩ | refine And.intro ⟨rfl, rfl, by decide, rfl⟩ ?_ | refine jP ?_ | refine jO ?_ | refine jX ?_ | refine jb jr ?_ | refine jb ofs ?_ | refine ko jc ?_ | refine ko jp ?_ | refine jM ?_ | refine kr ?_ | refine ko rfl ?_ | refine And.intro (cs_shal _) ?_ | refine And.intro (rfl : List.all _ _ = true) ?_ | refine And.intro ⟨rfl, (rfl : List.all _ _ = true)⟩ ?_ | exact ⟨rfl, rfl⟩ | exact jV | fail))
      conv => whnf
      refine ⟨fun hge => ?_, fun hlt => ?_⟩
      · obtain ⟨m, rfl⟩ : ∃ m, i = m + 1 := ⟨i - 1, by omega⟩
        have hm : m < d.cache.length := by omega
        have hc := cnt_ge (c := fun w : Wri => w.b.length) hm
        have hl := lastW_take (n := (q : Int)) hm
        repeat' ((conv => whnf); (first | refine And.intro ⟨by omega, by omega⟩ (Exists.intro _ (And.intro (rdI (i := m) (by omega) (by omega)) ?_)) | refine Exists.intro _ (Exists.intro (cs true (_ : List UInt8)) (And.intro rfl (And.intro ⟨Nat.le_refl _, bgb (by omega), bg (by omega)⟩ (Exists.intro _ (And.intro ape (Exists.intro _ (And.intro (Nat.zero_add _) ?_))))))) | refine k0 ?_ | refine jA fun _ => ?_ | refine jB fun _ => ?_ | refine kC (fun _ => ?_) fun _ => ?_ | refine jS ?_ | refine jI ?_ | (apply cx80; refine kl tx80 ?_) | refine jD ?_ | refine ⟨snc, _, snr, ?_⟩ | refine ⟨⟨Nat.le_refl _, rfl⟩, [], rfl, ?_⟩ | refine And.intro ⟨rfl, rfl, by decide, rfl⟩ ?_ | refine jP ?_ | refine jO ?_ | refine jX ?_ | refine jb jr ?_ | refine jb ofs ?_ | refine ko jc ?_ | refine ko jp ?_ | refine jM ?_ | refine kr ?_ | refine ko rfl ?_ | refine And.intro (cs_shal _) ?_ | refine And.intro (rfl : List.all _ _ = true) ?_ | refine And.intro ⟨rfl, (rfl : List.all _ _ = true)⟩ ?_ | exact ⟨rfl, rfl⟩ | exact jV | fail))
        · exact ⟨by rw [rdS_in hn, ← hi.2, hl, if_pos ‹_›]; rfl, rfl⟩
        · refine ⟨⟨m, by omega, by rw [← hi.2, hl, if_neg ‹_›]⟩, by simp only; omega, ?_⟩
          exact jw []
      · obtain rfl : i = 0 := by omega
        have hc := cnt_ge (c := List.length) hq
        repeat' ((conv => whnf); (first | refine Exists.intro _ (Exists.intro (cs true (_ : List UInt8)) (And.intro rfl (And.intro ⟨Nat.le_refl _, bgb (by omega), bg (by omega)⟩ (Exists.intro _ (And.intro ape (Exists.intro _ (And.intro (Nat.zero_add _) ?_))))))) | refine k0 ?_ | refine jA fun _ => ?_ | refine jB fun _ => ?_ | refine kC (fun _ => ?_) fun _ => ?_ | refine jS ?_ | refine jI ?_ | (apply cx80; refine kl tx80 ?_) | refine jD ?_ | refine ⟨snc, _, snr, ?_⟩ | refine ⟨⟨Nat.le_refl _, rfl⟩, [], rfl, ?_⟩ | refine And.intro ⟨rfl, rfl, by decide, rfl⟩ ?_ | refine jP ?_ | refine jO ?_ | refine jX ?_ | refine jb jr ?_ | refine jb ofs ?_ | refine ko jc ?_ | refine ko jp ?_ | refine jM ?_ | refine kr ?_ | refine ko rfl ?_ | refine And.intro (cs_shal _) ?_ | refine And.intro (rfl : List.all _ _ = true) ?_ | refine And.intro ⟨rfl, (rfl : List.all _ _ = true)⟩ ?_ | exact ⟨rfl, rfl⟩ | exact jV | fail))
        exact ⟨by rw [rdS_in hn, ← hi.2, List.getD_eq_getElem?_getD]; simp [hq, lastW], rfl⟩
  · have hin : inB n 0 ((d.secs.length : Int) - 1) = false := by
      cases h : inB n 0 ((d.secs.length : Int) - 1) with
      | false => rfl
      | true => have := inB_iff.1 h; omega
    repeat' ((conv => whnf); (first | refine k0 ?_ | refine jA fun _ => ?_ | refine jB fun _ => ?_ | refine kC (fun _ => ?_) fun _ => ?_ | refine jS ?_ | refine jI ?_ | (apply cx80; refine kl tx80 ?_) | refine jD ?_ | refine ⟨snc, _, snr, ?_⟩ | refine ⟨⟨Nat.le_refl _, rfl⟩, [], rfl, ?_⟩ | refine And.intro ⟨rfl, rfl, by decide, rfl⟩ ?_ | refine jP ?_ | refine jO ?_ | refine jX ?_ | refine jb jr ?_ | refine jb ofs ?_ | refine ko jc ?_ | refine ko jp ?_ | refine jM ?_ | refine kr ?_ | refine ko rfl ?_ | refine And.intro (cs_shal _) ?_ | refine And.intro (rfl : List.all _ _ = true) ?_ | refine And.intro ⟨rfl, (rfl : List.all _ _ = true)⟩ ?_ | exact ⟨rfl, rfl⟩ | exact jV | fail))
    exact ⟨by rw [rdS_out hn]; rfl, rfl⟩

theorem cx70 {P : Program} {X : FuncId → List Arg → List (Bool × List Cell) → List (Option (List Cell)) → Prop} {a : List Arg} {Q : List (Bool × List Cell) → List (Option (List Cell)) → Prop} (h : ∃ b vals outs, a = b ∧ D P X (.call 70 b vals outs) ∧ Q vals outs) : CallS P X 70 a Q := ⟨h⟩

set_option maxRecDepth 100000 in
theorem tx56 {d : Dsk} {n k : Int} (hd : zD d ≤ 2000000 := by first | assumption | omega | (simp; done) | (simp; omega)) : T 56 [.val true (dskC false d), aI n, aI k] [(false, [slE false (pgA d n k).1]), vB (pgA d n k).2] [none, none, none] := by
  refine w_call md [] Try.func56 rfl ?_
  have hl := rdS_len (d := d) (n := n)
  cases hg : (gP (rdS d n).1).2.2
  all_goals repeat' ((conv => whnf); (first | refine bstep (w_nil 6 1) ?_ | refine bstep (w_frz 4 ((rdS d n).1)) ?_ | (apply cx65; refine kl (tx65 (b := (rdS d n).1) (o := true)) ?_) | (apply cx65; refine kl (tx65 (b := (rdS d n).1) (o := false)) ?_) | refine k0 ?_ | refine jA fun _ => ?_ | refine jB fun _ => ?_ | refine kC (fun _ => ?_) fun _ => ?_ | refine jS ?_ | refine jI ?_ | (apply cx64; refine kl tx64 ?_) | (apply cx65; refine kl tx65 ?_) | refine jD ?_ | refine ⟨snc, _, snr, ?_⟩ | refine ⟨⟨Nat.le_refl _, rfl⟩, [], rfl, ?_⟩ | refine And.intro ⟨rfl, rfl, by decide, rfl⟩ ?_ | refine jP ?_ | refine jO ?_ | refine jX ?_ | refine jb jr ?_ | refine jb ofs ?_ | refine ko jc ?_ | refine ko jp ?_ | refine jM ?_ | refine kr ?_ | refine ko rfl ?_ | refine And.intro (cs_shal _) ?_ | refine And.intro (rfl : List.all _ _ = true) ?_ | refine And.intro ⟨rfl, (rfl : List.all _ _ = true)⟩ ?_ | exact ⟨rfl, rfl⟩ | exact jV | fail))
  all_goals first
    | exact ⟨by rw [pgA_no (fun q => absurd (q.1.symm.trans ‹(rdS d n).2 = false›) (by decide))]; rfl, rfl⟩
    | exact ⟨by rw [pgA_no (fun q => absurd (q.2.1.symm.trans hg) (by decide))]; rfl, rfl⟩
    | exact ⟨by rw [pgA_no (fun q => absurd q.2.2 (by omega))]; rfl, rfl⟩
    | exact ⟨by rw [pgA_yes ‹_› hg (by omega)]; rfl, rfl⟩

theorem cx56 {P : Program} {X : FuncId → List Arg → List (Bool × List Cell) → List (Option (List Cell)) → Prop} {a : List Arg} {Q : List (Bool × List Cell) → List (Option (List Cell)) → Prop} (h : ∃ b vals outs, a = b ∧ D P X (.call 56 b vals outs) ∧ Q vals outs) : CallS P X 56 a Q := ⟨h⟩

set_option maxRecDepth 100000 in
theorem tx60 {d : Dsk} {n k : Int} (hd : zD d ≤ 2000000 := by first | assumption | omega | (simp; done) | (simp; omega)) : T 60 [.val true (dskC false d), aI n, aI k] [(false, [slE false (pgA d n k).1]), vB (pgA d n k).2] [none, none, none] := by
  refine w_call md [] Try.func60 rfl ?_
  have hl := rdS_len (d := d) (n := n)
  cases hg : (gP (rdS d n).1).2.2
  all_goals repeat' ((conv => whnf); (first | refine bstep (w_emp 6) ?_ | refine bstep (w_frz 4 ((rdS d n).1)) ?_ | (apply cx71; refine kl (tx71 (b := (rdS d n).1) (o := true)) ?_) | (apply cx71; refine kl (tx71 (b := (rdS d n).1) (o := false)) ?_) | refine k0 ?_ | refine jA fun _ => ?_ | refine jB fun _ => ?_ | refine kC (fun _ => ?_) fun _ => ?_ | refine jS ?_ | refine jI ?_ | (apply cx70; refine kl tx70 ?_) | (apply cx71; refine kl tx71 ?_) | refine jD ?_ | refine ⟨snc, _, snr, ?_⟩ | refine ⟨⟨Nat.le_refl _, rfl⟩, [], rfl, ?_⟩ | refine And.intro ⟨rfl, rfl, by decide, rfl⟩ ?_ | refine jP ?_ | refine jO ?_ | refine jX ?_ | refine jb jr ?_ | refine jb ofs ?_ | refine ko jc ?_ | refine ko jp ?_ | refine jM ?_ | refine kr ?_ | refine ko rfl ?_ | refine And.intro (cs_shal _) ?_ | refine And.intro (rfl : List.all _ _ = true) ?_ | refine And.intro ⟨rfl, (rfl : List.all _ _ = true)⟩ ?_ | exact ⟨rfl, rfl⟩ | exact jV | fail))
  all_goals first
    | exact ⟨by rw [pgA_no (fun q => absurd (q.1.symm.trans ‹(rdS d n).2 = false›) (by decide))]; rfl, rfl⟩
    | exact ⟨by rw [pgA_no (fun q => absurd (q.2.1.symm.trans hg) (by decide))]; rfl, rfl⟩
    | exact ⟨by rw [pgA_no (fun q => absurd q.2.2 (by omega))]; rfl, rfl⟩
    | exact ⟨by rw [pgA_yes ‹_› hg (by omega)]; rfl, rfl⟩

theorem cx60 {P : Program} {X : FuncId → List Arg → List (Bool × List Cell) → List (Option (List Cell)) → Prop} {a : List Arg} {Q : List (Bool × List Cell) → List (Option (List Cell)) → Prop} (h : ∃ b vals outs, a = b ∧ D P X (.call 60 b vals outs) ∧ Q vals outs) : CallS P X 60 a Q := ⟨h⟩

end Go.Proofs.Ytkggnekdjdnhiaa
