/- Functions of the program, each with what it gives back. -/
import Derived.Test.YtacfohamlkbpjaaGreatKe
import Derived.Test.YtacfohamlkbpjaaGreatChecked
import Derived.IntWalk
import Derived.Test.YtacfohamlkbpjaaGreatFh
namespace Go.Proofs.YtacfohamlkbpjaaGreat
open Go Go.RowKit Go.IntWalk
open Enc (sz cs)
attribute [local irreducible] IntKind.wrap

attribute [local irreducible] gU gT gS gP gM ptP ptM ptS crcN

set_option maxRecDepth 100000 in
theorem tx74 {d : Dsk} {n : Int} (hd : zD d ≤ 2000000 := by first | assumption | omega | (simp; done) | (simp; omega)) : T 74 [.val true (dskC false d), aI n] [vE (rdS d n).1, vB (rdS d n).2] [none, none] := by
  refine w_call md [[1]] Tryz.func74 rfl ?_
  have hz : zD d = d.secs.length + cnt List.length d.secs + (d.cache.length + cnt (fun w : Wri => w.b.length) d.cache) + d.faults.length := rfl
  by_cases hn : 0 ≤ n ∧ n < d.secs.length
  · have hin : inB n 0 ((d.secs.length : Int) - 1) = true := inB_iff.2 (by omega)
    obtain ⟨q, rfl⟩ := Int.eq_ofNat_of_zero_le hn.1
    have hq : q < d.secs.length := by omega
    repeat' ((conv => whnf); (first | refine k0 ?_ | refine jA fun _ => ?_ | refine jB fun _ => ?_ | refine kC (fun _ => ?_) fun _ => ?_ | refine jS ?_ | refine jI ?_ | (apply cx77; refine kl tx77 ?_) | (apply cx87; refine kl tx87 ?_) | refine jD ?_ | refine ⟨snc, _, snr, ?_⟩ | refine ⟨⟨Nat.le_refl _, rfl⟩, [], rfl, ?_⟩ | refine And.intro ⟨rfl, rfl, by decide, rfl⟩ ?_ | refine jP ?_ | refine jO ?_ | refine jX ?_ | refine jb jr ?_ | refine jb ofs ?_ | refine ko jc ?_ | refine ko jp ?_ | refine jM ?_ | refine kr ?_ | refine ko rfl ?_ | refine And.intro (cs_shal _) ?_ | refine And.intro (rfl : List.all _ _ = true) ?_ | refine And.intro ⟨rfl, (rfl : List.all _ _ = true)⟩ ?_ | exact ⟨rfl, rfl⟩ | exact jV | fail))
    conv => whnf
    refine loopk (ι := Nat) (fun i => i ≤ d.cache.length ∧ lastW q (d.cache.take i) = lastW q d.cache) (fun i => i) (d.cache.length) [1, 2] (fun i => [(6, .v false [i6 ((i : Int) - 1)])]) [none, none, none] ?_
    refine ⟨⟨Nat.le_refl _, by rw [List.take_length]⟩, ?_, fun i hi => ?_⟩
    · exact jw []
    · repeat' ((conv => whnf); (first | refine k0 ?_ | refine jS ?_ | refine jI ?_ | (apply cx77; refine kl tx77 ?_) | (apply cx87; refine kl tx87 ?_) | refine jD ?_ | refine ⟨snc, _, snr, ?_⟩ | refine ⟨⟨Nat.le_refl _, rfl⟩, [], rfl, ?_⟩ | refine And.intro ⟨rfl, rfl, by decide, rfl⟩ ?_ | refine jP ?_ | refine jO ?_ | refine jX ?_ | refine jb jr ?_ | refine jb ofs ?_ | refine ko jc ?_ | refine ko jp ?_ | refine jM ?_ | refine kr ?_ | refine ko rfl ?_ | refine And.intro (cs_shal _) ?_ | refine And.intro (rfl : List.all _ _ = true) ?_ | refine And.intro ⟨rfl, (rfl : List.all _ _ = true)⟩ ?_ | exact ⟨rfl, rfl⟩ | exact jV | fail))
      conv => whnf
      refine ⟨fun hge => ?_, fun hlt => ?_⟩
      · obtain ⟨m, rfl⟩ : ∃ m, i = m + 1 := ⟨i - 1, by omega⟩
        have hm : m < d.cache.length := by omega
        have hc := cnt_ge (c := fun w : Wri => w.b.length) hm
        have hl := lastW_take (n := (q : Int)) hm
        repeat' ((conv => whnf); (first | refine And.intro ⟨by omega, by omega⟩ (Exists.intro _ (And.intro (rdI (i := m) (by omega) (by omega)) ?_)) | refine k0 ?_ | refine jA fun _ => ?_ | refine jB fun _ => ?_ | refine kC (fun _ => ?_) fun _ => ?_ | refine jS ?_ | refine jI ?_ | (apply cx77; refine kl tx77 ?_) | (apply cx87; refine kl tx87 ?_) | refine jD ?_ | refine ⟨snc, _, snr, ?_⟩ | refine ⟨⟨Nat.le_refl _, rfl⟩, [], rfl, ?_⟩ | refine And.intro ⟨rfl, rfl, by decide, rfl⟩ ?_ | refine jP ?_ | refine jO ?_ | refine jX ?_ | refine jb jr ?_ | refine jb ofs ?_ | refine ko jc ?_ | refine ko jp ?_ | refine jM ?_ | refine kr ?_ | refine ko rfl ?_ | refine And.intro (cs_shal _) ?_ | refine And.intro (rfl : List.all _ _ = true) ?_ | refine And.intro ⟨rfl, (rfl : List.all _ _ = true)⟩ ?_ | exact ⟨rfl, rfl⟩ | exact jV | fail))
        · exact ⟨by rw [rdS_in hn, ← hi.2, hl, if_pos ‹_›]; rfl, rfl⟩
        · refine ⟨⟨m, by omega, by rw [← hi.2, hl, if_neg ‹_›]⟩, by simp only; omega, ?_⟩
          exact jw []
      · obtain rfl : i = 0 := by omega
        have hc := cnt_ge (c := List.length) hq
        repeat' ((conv => whnf); (first | refine k0 ?_ | refine jA fun _ => ?_ | refine jB fun _ => ?_ | refine kC (fun _ => ?_) fun _ => ?_ | refine jS ?_ | refine jI ?_ | (apply cx77; refine kl tx77 ?_) | (apply cx87; refine kl tx87 ?_) | refine jD ?_ | refine ⟨snc, _, snr, ?_⟩ | refine ⟨⟨Nat.le_refl _, rfl⟩, [], rfl, ?_⟩ | refine And.intro ⟨rfl, rfl, by decide, rfl⟩ ?_ | refine jP ?_ | refine jO ?_ | refine jX ?_ | refine jb jr ?_ | refine jb ofs ?_ | refine ko jc ?_ | refine ko jp ?_ | refine jM ?_ | refine kr ?_ | refine ko rfl ?_ | refine And.intro (cs_shal _) ?_ | refine And.intro (rfl : List.all _ _ = true) ?_ | refine And.intro ⟨rfl, (rfl : List.all _ _ = true)⟩ ?_ | exact ⟨rfl, rfl⟩ | exact jV | fail))
        exact ⟨by rw [rdS_in hn, ← hi.2, List.getD_eq_getElem?_getD]; simp [hq, lastW], rfl⟩
  · have hin : inB n 0 ((d.secs.length : Int) - 1) = false := by
      cases h : inB n 0 ((d.secs.length : Int) - 1) with
      | false => rfl
      | true => have := inB_iff.1 h; omega
    repeat' ((conv => whnf); (first | refine k0 ?_ | refine jA fun _ => ?_ | refine jB fun _ => ?_ | refine kC (fun _ => ?_) fun _ => ?_ | refine jS ?_ | refine jI ?_ | (apply cx77; refine kl tx77 ?_) | (apply cx87; refine kl tx87 ?_) | refine jD ?_ | refine ⟨snc, _, snr, ?_⟩ | refine ⟨⟨Nat.le_refl _, rfl⟩, [], rfl, ?_⟩ | refine And.intro ⟨rfl, rfl, by decide, rfl⟩ ?_ | refine jP ?_ | refine jO ?_ | refine jX ?_ | refine jb jr ?_ | refine jb ofs ?_ | refine ko jc ?_ | refine ko jp ?_ | refine jM ?_ | refine kr ?_ | refine ko rfl ?_ | refine And.intro (cs_shal _) ?_ | refine And.intro (rfl : List.all _ _ = true) ?_ | refine And.intro ⟨rfl, (rfl : List.all _ _ = true)⟩ ?_ | exact ⟨rfl, rfl⟩ | exact jV | fail))
    exact ⟨by rw [rdS_out hn]; rfl, rfl⟩

theorem cx74 {P : Program} {X : FuncId → List Arg → List (Bool × List Cell) → List (Option (List Cell)) → Prop} {a : List Arg} {Q : List (Bool × List Cell) → List (Option (List Cell)) → Prop} (h : ∃ b vals outs, a = b ∧ D P X (.call 74 b vals outs) ∧ Q vals outs) : CallS P X 74 a Q := ⟨h⟩

set_option maxRecDepth 100000 in
theorem tx82 {d : Dsk} {n : Int} (hd : zD d ≤ 2000000 := by first | assumption | omega | (simp; done) | (simp; omega)) : T 82 [.val true (dskC false d), aI n] [vE (rdS d n).1, vB (rdS d n).2] [none, none] := by
  refine w_call md [[1]] Tryz.func82 rfl ?_
  have hz : zD d = d.secs.length + cnt List.length d.secs + (d.cache.length + cnt (fun w : Wri => w.b.length) d.cache) + d.faults.length := rfl
  by_cases hn : 0 ≤ n ∧ n < d.secs.length
  · have hin : inB n 0 ((d.secs.length : Int) - 1) = true := inB_iff.2 (by omega)
    obtain ⟨q, rfl⟩ := Int.eq_ofNat_of_zero_le hn.1
    have hq : q < d.secs.length := by omega
    repeat' ((conv => whnf); (first | refine k0 ?_ | refine jA fun _ => ?_ | refine jB fun _ => ?_ | refine kC (fun _ => ?_) fun _ => ?_ | refine jS ?_ | refine jI ?_ | (apply cx92; refine kl tx92 ?_) | refine jD ?_ | refine ⟨snc, _, snr, ?_⟩ | refine ⟨⟨Nat.le_refl _, rfl⟩, [], rfl, ?_⟩ | refine And.intro ⟨rfl, rfl, by decide, rfl⟩ ?_ | refine jP ?_ | refine jO ?_ | refine jX ?_ | refine jb jr ?_ | refine jb ofs ?_ | refine ko jc ?_ | refine ko jp ?_ | refine jM ?_ | refine kr ?_ | refine ko rfl ?_ | refine And.intro (cs_shal _) ?_ | refine And.intro (rfl : List.all _ _ = true) ?_ | refine And.intro ⟨rfl, (rfl : List.all _ _ = true)⟩ ?_ | exact ⟨rfl, rfl⟩ | exact jV | fail))
    conv => whnf
    refine loopk (ι := Nat) (fun i => i ≤ d.cache.length ∧ lastW q (d.cache.take i) = lastW q d.cache) (fun i => i) (d.cache.length) [1, 2] (fun i => [(6, .v false [i6 ((i : Int) - 1)])]) [none, none, none] ?_
    refine ⟨⟨Nat.le_refl _, by rw [List.take_length]⟩, ?_, fun i hi => ?_⟩
    · exact jw []
    · repeat' ((conv => whnf); (first | refine k0 ?_ | refine jS ?_ | refine jI ?_ | (apply cx92; refine kl tx92 ?_) | refine jD ?_ | refine ⟨snc, _, snr, ?_⟩ | refine ⟨⟨Nat.le_refl _, rfl⟩, [], rfl, ?_⟩ | refine And.intro ⟨rfl, rfl, by decide, rfl⟩ ?_ | refine jP ?_ | refine jO ?_ | refine jX ?_ | refine jb jr ?_ | refine jb ofs ?_ | refine ko jc ?_ | refine ko jp ?_ | refine jM ?_ | refine kr ?_ | refine ko rfl ?_ | refine And.intro (cs_shal _) ?_ | refine And.intro (rfl : List.all _ _ = true) ?_ | refine And.intro ⟨rfl, (rfl : List.all _ _ = true)⟩ ?_ | exact ⟨rfl, rfl⟩ | exact jV | fail))
      conv => whnf
      refine ⟨fun hge => ?_, fun hlt => ?_⟩
      · obtain ⟨m, rfl⟩ : ∃ m, i = m + 1 := ⟨i - 1, by omega⟩
        have hm : m < d.cache.length := by omega
        have hc := cnt_ge (c := fun w : Wri => w.b.length) hm
        have hl := lastW_take (n := (q : Int)) hm
        repeat' ((conv => whnf); (first | refine And.intro ⟨by omega, by omega⟩ (Exists.intro _ (And.intro (rdI (i := m) (by omega) (by omega)) ?_)) | refine Exists.intro _ (Exists.intro (cs true (_ : List UInt8)) (And.intro rfl (And.intro ⟨Nat.le_refl _, bgb (by omega), bg (by omega)⟩ (Exists.intro _ (And.intro ape (Exists.intro _ (And.intro (Nat.zero_add _) ?_))))))) | refine k0 ?_ | refine jA fun _ => ?_ | refine jB fun _ => ?_ | refine kC (fun _ => ?_) fun _ => ?_ | refine jS ?_ | refine jI ?_ | (apply cx92; refine kl tx92 ?_) | refine jD ?_ | refine ⟨snc, _, snr, ?_⟩ | refine ⟨⟨Nat.le_refl _, rfl⟩, [], rfl, ?_⟩ | refine And.intro ⟨rfl, rfl, by decide, rfl⟩ ?_ | refine jP ?_ | refine jO ?_ | refine jX ?_ | refine jb jr ?_ | refine jb ofs ?_ | refine ko jc ?_ | refine ko jp ?_ | refine jM ?_ | refine kr ?_ | refine ko rfl ?_ | refine And.intro (cs_shal _) ?_ | refine And.intro (rfl : List.all _ _ = true) ?_ | refine And.intro ⟨rfl, (rfl : List.all _ _ = true)⟩ ?_ | exact ⟨rfl, rfl⟩ | exact jV | fail))
        · exact ⟨by rw [rdS_in hn, ← hi.2, hl, if_pos ‹_›]; rfl, rfl⟩
        · refine ⟨⟨m, by omega, by rw [← hi.2, hl, if_neg ‹_›]⟩, by simp only; omega, ?_⟩
          exact jw []
      · obtain rfl : i = 0 := by omega
        have hc := cnt_ge (c := List.length) hq
        repeat' ((conv => whnf); (first | refine Exists.intro _ (Exists.intro (cs true (_ : List UInt8)) (And.intro rfl (And.intro ⟨Nat.le_refl _, bgb (by omega), bg (by omega)⟩ (Exists.intro _ (And.intro ape (Exists.intro _ (And.intro (Nat.zero_add _) ?_))))))) | refine k0 ?_ | refine jA fun _ => ?_ | refine jB fun _ => ?_ | refine kC (fun _ => ?_) fun _ => ?_ | refine jS ?_ | refine jI ?_ | (apply cx92; refine kl tx92 ?_) | refine jD ?_ | refine ⟨snc, _, snr, ?_⟩ | refine ⟨⟨Nat.le_refl _, rfl⟩, [], rfl, ?_⟩ | refine And.intro ⟨rfl, rfl, by decide, rfl⟩ ?_ | refine jP ?_ | refine jO ?_ | refine jX ?_ | refine jb jr ?_ | refine jb ofs ?_ | refine ko jc ?_ | refine ko jp ?_ | refine jM ?_ | refine kr ?_ | refine ko rfl ?_ | refine And.intro (cs_shal _) ?_ | refine And.intro (rfl : List.all _ _ = true) ?_ | refine And.intro ⟨rfl, (rfl : List.all _ _ = true)⟩ ?_ | exact ⟨rfl, rfl⟩ | exact jV | fail))
        exact ⟨by rw [rdS_in hn, ← hi.2, List.getD_eq_getElem?_getD]; simp [hq, lastW], rfl⟩
  · have hin : inB n 0 ((d.secs.length : Int) - 1) = false := by
      cases h : inB n 0 ((d.secs.length : Int) - 1) with
      | false => rfl
      | true => have := inB_iff.1 h; omega
    repeat' ((conv => whnf); (first | refine k0 ?_ | refine jA fun _ => ?_ | refine jB fun _ => ?_ | refine kC (fun _ => ?_) fun _ => ?_ | refine jS ?_ | refine jI ?_ | (apply cx92; refine kl tx92 ?_) | refine jD ?_ | refine ⟨snc, _, snr, ?_⟩ | refine ⟨⟨Nat.le_refl _, rfl⟩, [], rfl, ?_⟩ | refine And.intro ⟨rfl, rfl, by decide, rfl⟩ ?_ | refine jP ?_ | refine jO ?_ | refine jX ?_ | refine jb jr ?_ | refine jb ofs ?_ | refine ko jc ?_ | refine ko jp ?_ | refine jM ?_ | refine kr ?_ | refine ko rfl ?_ | refine And.intro (cs_shal _) ?_ | refine And.intro (rfl : List.all _ _ = true) ?_ | refine And.intro ⟨rfl, (rfl : List.all _ _ = true)⟩ ?_ | exact ⟨rfl, rfl⟩ | exact jV | fail))
    exact ⟨by rw [rdS_out hn]; rfl, rfl⟩

theorem cx82 {P : Program} {X : FuncId → List Arg → List (Bool × List Cell) → List (Option (List Cell)) → Prop} {a : List Arg} {Q : List (Bool × List Cell) → List (Option (List Cell)) → Prop} (h : ∃ b vals outs, a = b ∧ D P X (.call 82 b vals outs) ∧ Q vals outs) : CallS P X 82 a Q := ⟨h⟩

set_option maxRecDepth 100000 in
theorem tx59 {d : Dsk} {n k : Int} (hd : zD d ≤ 2000000 := by first | assumption | omega | (simp; done) | (simp; omega)) : T 59 [.val true (dskC false d), aI n, aI k] [(false, [slE false (pgA d n k).1]), vB (pgA d n k).2] [none, none, none] := by
  refine w_call md [] Tryz.func59 rfl ?_
  have hl := rdS_len (d := d) (n := n)
  cases hg : (gP (rdS d n).1).2.2
  all_goals repeat' ((conv => whnf); (first | refine bstep (w_nil 6 1) ?_ | refine bstep (w_frz 4 ((rdS d n).1)) ?_ | (apply cx75; refine kl (tx75 (b := (rdS d n).1) (o := true)) ?_) | (apply cx75; refine kl (tx75 (b := (rdS d n).1) (o := false)) ?_) | refine k0 ?_ | refine jA fun _ => ?_ | refine jB fun _ => ?_ | refine kC (fun _ => ?_) fun _ => ?_ | refine jS ?_ | refine jI ?_ | (apply cx74; refine kl tx74 ?_) | (apply cx75; refine kl tx75 ?_) | refine jD ?_ | refine ⟨snc, _, snr, ?_⟩ | refine ⟨⟨Nat.le_refl _, rfl⟩, [], rfl, ?_⟩ | refine And.intro ⟨rfl, rfl, by decide, rfl⟩ ?_ | refine jP ?_ | refine jO ?_ | refine jX ?_ | refine jb jr ?_ | refine jb ofs ?_ | refine ko jc ?_ | refine ko jp ?_ | refine jM ?_ | refine kr ?_ | refine ko rfl ?_ | refine And.intro (cs_shal _) ?_ | refine And.intro (rfl : List.all _ _ = true) ?_ | refine And.intro ⟨rfl, (rfl : List.all _ _ = true)⟩ ?_ | exact ⟨rfl, rfl⟩ | exact jV | fail))
  all_goals first
    | exact ⟨by rw [pgA_no (fun q => absurd (q.1.symm.trans ‹(rdS d n).2 = false›) (by decide))]; rfl, rfl⟩
    | exact ⟨by rw [pgA_no (fun q => absurd (q.2.1.symm.trans hg) (by decide))]; rfl, rfl⟩
    | exact ⟨by rw [pgA_no (fun q => absurd q.2.2 (by omega))]; rfl, rfl⟩
    | exact ⟨by rw [pgA_yes ‹_› hg (by omega)]; rfl, rfl⟩

theorem cx59 {P : Program} {X : FuncId → List Arg → List (Bool × List Cell) → List (Option (List Cell)) → Prop} {a : List Arg} {Q : List (Bool × List Cell) → List (Option (List Cell)) → Prop} (h : ∃ b vals outs, a = b ∧ D P X (.call 59 b vals outs) ∧ Q vals outs) : CallS P X 59 a Q := ⟨h⟩

set_option maxRecDepth 100000 in
theorem tx68 {d : Dsk} {n k : Int} (hd : zD d ≤ 2000000 := by first | assumption | omega | (simp; done) | (simp; omega)) : T 68 [.val true (dskC false d), aI n, aI k] [(false, [slE false (pgA d n k).1]), vB (pgA d n k).2] [none, none, none] := by
  refine w_call md [] Tryz.func68 rfl ?_
  have hl := rdS_len (d := d) (n := n)
  cases hg : (gP (rdS d n).1).2.2
  all_goals repeat' ((conv => whnf); (first | refine bstep (w_emp 6) ?_ | refine bstep (w_frz 4 ((rdS d n).1)) ?_ | (apply cx83; refine kl (tx83 (b := (rdS d n).1) (o := true)) ?_) | (apply cx83; refine kl (tx83 (b := (rdS d n).1) (o := false)) ?_) | refine k0 ?_ | refine jA fun _ => ?_ | refine jB fun _ => ?_ | refine kC (fun _ => ?_) fun _ => ?_ | refine jS ?_ | refine jI ?_ | (apply cx82; refine kl tx82 ?_) | (apply cx83; refine kl tx83 ?_) | refine jD ?_ | refine ⟨snc, _, snr, ?_⟩ | refine ⟨⟨Nat.le_refl _, rfl⟩, [], rfl, ?_⟩ | refine And.intro ⟨rfl, rfl, by decide, rfl⟩ ?_ | refine jP ?_ | refine jO ?_ | refine jX ?_ | refine jb jr ?_ | refine jb ofs ?_ | refine ko jc ?_ | refine ko jp ?_ | refine jM ?_ | refine kr ?_ | refine ko rfl ?_ | refine And.intro (cs_shal _) ?_ | refine And.intro (rfl : List.all _ _ = true) ?_ | refine And.intro ⟨rfl, (rfl : List.all _ _ = true)⟩ ?_ | exact ⟨rfl, rfl⟩ | exact jV | fail))
  all_goals first
    | exact ⟨by rw [pgA_no (fun q => absurd (q.1.symm.trans ‹(rdS d n).2 = false›) (by decide))]; rfl, rfl⟩
    | exact ⟨by rw [pgA_no (fun q => absurd (q.2.1.symm.trans hg) (by decide))]; rfl, rfl⟩
    | exact ⟨by rw [pgA_no (fun q => absurd q.2.2 (by omega))]; rfl, rfl⟩
    | exact ⟨by rw [pgA_yes ‹_› hg (by omega)]; rfl, rfl⟩

theorem cx68 {P : Program} {X : FuncId → List Arg → List (Bool × List Cell) → List (Option (List Cell)) → Prop} {a : List Arg} {Q : List (Bool × List Cell) → List (Option (List Cell)) → Prop} (h : ∃ b vals outs, a = b ∧ D P X (.call 68 b vals outs) ∧ Q vals outs) : CallS P X 68 a Q := ⟨h⟩

end Go.Proofs.YtacfohamlkbpjaaGreat
