/- Functions of the program, each with what it gives back. -/
import Derived.Test.YtmphoefccibibaaKe
import Derived.Test.YtmphoefccibibaaChecked
import Derived.IntWalk
import Derived.Test.YtmphoefccibibaaFh
namespace Go.Proofs.Ytmphoefccibibaa
open Go Go.RowKit Go.IntWalk
open Enc (sz cs)
attribute [local irreducible] IntKind.wrap

attribute [local irreducible] gU gT gS gP gM ptP ptM ptS crcN

set_option maxRecDepth 100000 in
theorem tx7 {d : Dsk} {n : Int} (hd : zD d ≤ 2000000 := by first | assumption | omega | (simp; done) | (simp; omega)) : T 7 [.val true (dskC false d), aI n] [vE (rdS d n).1, vB (rdS d n).2] [none, none] := by
  refine w_call md [[1]] Try.func7 rfl ?_
  have hz : zD d = d.secs.length + cnt List.length d.secs + (d.cache.length + cnt (fun w : Wri => w.b.length) d.cache) + d.faults.length := rfl
  by_cases hn : 0 ≤ n ∧ n < d.secs.length
  · have hin : inB n 0 ((d.secs.length : Int) - 1) = true := inB_iff.2 (by omega)
    obtain ⟨q, rfl⟩ := Int.eq_ofNat_of_zero_le hn.1
    have hq : q < d.secs.length := by omega
    repeat' ((conv => whnf); (first | refine k0 ?_ | refine jA fun _ => ?_ | refine jB fun _ => ?_ | refine kC (fun _ => ?_) fun _ => ?_ | (apply cx19; refine kl tx19 ?_) | (apply cx20; refine kl tx20 ?_) | refine jst ?_ | exact ⟨rfl, rfl⟩ | exact jV | fail))
    conv => whnf
    refine loopk (ι := Nat) (fun i => i ≤ d.cache.length ∧ lastW q (d.cache.take i) = lastW q d.cache) (fun i => i) (d.cache.length) [1, 2] (fun i => [(6, .v false [i6 ((i : Int) - 1)])]) [none, none, none] ?_
    refine ⟨⟨Nat.le_refl _, by rw [List.take_length]⟩, ?_, fun i hi => ?_⟩
    · exact jw []
    · repeat' ((conv => whnf); (first | refine k0 ?_ | (apply cx19; refine kl tx19 ?_) | (apply cx20; refine kl tx20 ?_) | refine jst ?_ | exact ⟨rfl, rfl⟩ | exact jV | fail))
      conv => whnf
      refine ⟨fun hge => ?_, fun hlt => ?_⟩
      · obtain ⟨m, rfl⟩ : ∃ m, i = m + 1 := ⟨i - 1, by omega⟩
        have hm : m < d.cache.length := by omega
        have hc := cnt_ge (c := fun w : Wri => w.b.length) hm
        have hl := lastW_take (n := (q : Int)) hm
        repeat' ((conv => whnf); (first | refine And.intro ⟨by omega, by omega⟩ (Exists.intro _ (And.intro (rdI (i := m) (by omega) (by omega)) ?_)) | refine k0 ?_ | refine jA fun _ => ?_ | refine jB fun _ => ?_ | refine kC (fun _ => ?_) fun _ => ?_ | (apply cx19; refine kl tx19 ?_) | (apply cx20; refine kl tx20 ?_) | refine jst ?_ | exact ⟨rfl, rfl⟩ | exact jV | fail))
        · exact ⟨by rw [rdS_in hn, ← hi.2, hl, if_pos ‹_›]; rfl, rfl⟩
        · refine ⟨⟨m, by omega, by rw [← hi.2, hl, if_neg ‹_›]⟩, by simp only; omega, ?_⟩
          exact jw []
      · obtain rfl : i = 0 := by omega
        have hc := cnt_ge (c := List.length) hq
        repeat' ((conv => whnf); (first | refine k0 ?_ | refine jA fun _ => ?_ | refine jB fun _ => ?_ | refine kC (fun _ => ?_) fun _ => ?_ | (apply cx19; refine kl tx19 ?_) | (apply cx20; refine kl tx20 ?_) | refine jst ?_ | exact ⟨rfl, rfl⟩ | exact jV | fail))
        exact ⟨by rw [rdS_in hn, ← hi.2, List.getD_eq_getElem?_getD]; simp [hq, lastW], rfl⟩
  · have hin : inB n 0 ((d.secs.length : Int) - 1) = false := by
      cases h : inB n 0 ((d.secs.length : Int) - 1) with
      | false => rfl
      | true => have := inB_iff.1 h; omega
    repeat' ((conv => whnf); (first | refine k0 ?_ | refine jA fun _ => ?_ | refine jB fun _ => ?_ | refine kC (fun _ => ?_) fun _ => ?_ | (apply cx19; refine kl tx19 ?_) | (apply cx20; refine kl tx20 ?_) | refine jst ?_ | exact ⟨rfl, rfl⟩ | exact jV | fail))
    exact ⟨by rw [rdS_out hn]; rfl, rfl⟩

theorem cx7 {P : Program} {X : FuncId → List Arg → List (Bool × List Cell) → List (Option (List Cell)) → Prop} {a : List Arg} {Q : List (Bool × List Cell) → List (Option (List Cell)) → Prop} (h : ∃ b vals outs, a = b ∧ D P X (.call 7 b vals outs) ∧ Q vals outs) : CallS P X 7 a Q := ⟨h⟩

set_option maxRecDepth 100000 in
theorem tx26 {d : Dsk} {n : Int} (hd : zD d ≤ 2000000 := by first | assumption | omega | (simp; done) | (simp; omega)) : T 26 [.val true (dskC false d), aI n] [vE (rdS d n).1, vB (rdS d n).2] [none, none] := by
  refine w_call md [[1]] Try.func26 rfl ?_
  have hz : zD d = d.secs.length + cnt List.length d.secs + (d.cache.length + cnt (fun w : Wri => w.b.length) d.cache) + d.faults.length := rfl
  by_cases hn : 0 ≤ n ∧ n < d.secs.length
  · have hin : inB n 0 ((d.secs.length : Int) - 1) = true := inB_iff.2 (by omega)
    obtain ⟨q, rfl⟩ := Int.eq_ofNat_of_zero_le hn.1
    have hq : q < d.secs.length := by omega
    repeat' ((conv => whnf); (first | refine k0 ?_ | refine jA fun _ => ?_ | refine jB fun _ => ?_ | refine kC (fun _ => ?_) fun _ => ?_ | (apply cx43; refine kl tx43 ?_) | refine jst ?_ | exact ⟨rfl, rfl⟩ | exact jV | fail))
    conv => whnf
    refine loopk (ι := Nat) (fun i => i ≤ d.cache.length ∧ lastW q (d.cache.take i) = lastW q d.cache) (fun i => i) (d.cache.length) [1, 2] (fun i => [(6, .v false [i6 ((i : Int) - 1)])]) [none, none, none] ?_
    refine ⟨⟨Nat.le_refl _, by rw [List.take_length]⟩, ?_, fun i hi => ?_⟩
    · exact jw []
    · repeat' ((conv => whnf); (first | refine k0 ?_ | (apply cx43; refine kl tx43 ?_) | refine jst ?_ | exact ⟨rfl, rfl⟩ | exact jV | fail))
      conv => whnf
      refine ⟨fun hge => ?_, fun hlt => ?_⟩
      · obtain ⟨m, rfl⟩ : ∃ m, i = m + 1 := ⟨i - 1, by omega⟩
        have hm : m < d.cache.length := by omega
        have hc := cnt_ge (c := fun w : Wri => w.b.length) hm
        have hl := lastW_take (n := (q : Int)) hm
        repeat' ((conv => whnf); (first | refine And.intro ⟨by omega, by omega⟩ (Exists.intro _ (And.intro (rdI (i := m) (by omega) (by omega)) ?_)) | refine Exists.intro _ (Exists.intro (cs true (_ : List UInt8)) (And.intro rfl (And.intro ⟨Nat.le_refl _, bgb (by omega), bg (by omega)⟩ (Exists.intro _ (And.intro ape (Exists.intro _ (And.intro (Nat.zero_add _) ?_))))))) | refine k0 ?_ | refine jA fun _ => ?_ | refine jB fun _ => ?_ | refine kC (fun _ => ?_) fun _ => ?_ | (apply cx43; refine kl tx43 ?_) | refine jst ?_ | exact ⟨rfl, rfl⟩ | exact jV | fail))
        · exact ⟨by rw [rdS_in hn, ← hi.2, hl, if_pos ‹_›]; rfl, rfl⟩
        · refine ⟨⟨m, by omega, by rw [← hi.2, hl, if_neg ‹_›]⟩, by simp only; omega, ?_⟩
          exact jw []
      · obtain rfl : i = 0 := by omega
        have hc := cnt_ge (c := List.length) hq
        repeat' ((conv => whnf); (first | refine Exists.intro _ (Exists.intro (cs true (_ : List UInt8)) (And.intro rfl (And.intro ⟨Nat.le_refl _, bgb (by omega), bg (by omega)⟩ (Exists.intro _ (And.intro ape (Exists.intro _ (And.intro (Nat.zero_add _) ?_))))))) | refine k0 ?_ | refine jA fun _ => ?_ | refine jB fun _ => ?_ | refine kC (fun _ => ?_) fun _ => ?_ | (apply cx43; refine kl tx43 ?_) | refine jst ?_ | exact ⟨rfl, rfl⟩ | exact jV | fail))
        exact ⟨by rw [rdS_in hn, ← hi.2, List.getD_eq_getElem?_getD]; simp [hq, lastW], rfl⟩
  · have hin : inB n 0 ((d.secs.length : Int) - 1) = false := by
      cases h : inB n 0 ((d.secs.length : Int) - 1) with
      | false => rfl
      | true => have := inB_iff.1 h; omega
    repeat' ((conv => whnf); (first | refine k0 ?_ | refine jA fun _ => ?_ | refine jB fun _ => ?_ | refine kC (fun _ => ?_) fun _ => ?_ | (apply cx43; refine kl tx43 ?_) | refine jst ?_ | exact ⟨rfl, rfl⟩ | exact jV | fail))
    exact ⟨by rw [rdS_out hn]; rfl, rfl⟩

theorem cx26 {P : Program} {X : FuncId → List Arg → List (Bool × List Cell) → List (Option (List Cell)) → Prop} {a : List Arg} {Q : List (Bool × List Cell) → List (Option (List Cell)) → Prop} (h : ∃ b vals outs, a = b ∧ D P X (.call 26 b vals outs) ∧ Q vals outs) : CallS P X 26 a Q := ⟨h⟩

set_option maxRecDepth 100000 in
theorem tx46 {l : List Fau} (hl : l.length ≤ 2000000 := by first | assumption | omega | (simp; done) | (simp; omega)) : T 46 [aE l] [vB (fauOk l)] [none] := by
  refine w_call md [] Try.func46 rfl ?_
  repeat' ((conv => whnf); (first | refine k0 ?_ | refine jA fun _ => ?_ | refine jB fun _ => ?_ | refine kC (fun _ => ?_) fun _ => ?_ | (apply cx43; refine kl tx43 ?_) | refine jst ?_ | exact ⟨rfl, rfl⟩ | exact jV | fail))
  conv => whnf
  refine loopk (ι := Nat) (fun i => i ≤ l.length ∧ ∀ j (h : j < l.length), j < i → 0 ≤ l[j].pos ∧ l[j].pos ≤ 100000 ∧ 0 ≤ l[j].keep ∧ l[j].keep ≤ 1048575 ∧ 0 ≤ l[j].cut ∧ l[j].cut ≤ 256 ∧ (0 < j → l[j - 1].pos < l[j].pos)) (fun i => l.length - i) (0) [0] (fun i => [(3, .v false [i6 i])]) [none] ?_
  refine ⟨⟨by omega, by intros; omega⟩, ?_, fun i hi => ?_⟩
  · exact jw []
  · repeat' ((conv => whnf); (first | refine k0 ?_ | (apply cx43; refine kl tx43 ?_) | refine jst ?_ | exact ⟨rfl, rfl⟩ | exact jV | fail))
    conv => whnf
    refine ⟨fun hlt => ?_, fun hge => ?_⟩
    · have hi2 : i < l.length := by omega
      repeat' ((conv => whnf); (first | refine And.intro ⟨by omega, by omega⟩ (Exists.intro _ (And.intro (rdI (i := i - 1) (by omega) (by omega)) ?_)) | refine k0 ?_ | refine jA fun _ => ?_ | refine jB fun _ => ?_ | refine kC (fun _ => ?_) fun _ => ?_ | (apply cx43; refine kl tx43 ?_) | refine jst ?_ | exact ⟨rfl, rfl⟩ | exact jV | fail))
      all_goals first
        | exact ⟨by rw [fauOk_no (fun q => by have := q.fau i hi2; (try simp only [inB_iff] at *); (try simp only [inB_no] at *); omega)], rfl⟩
        | (refine ⟨⟨i + 1, by omega, all_suc hi.2 hi2 (by (try simp only [inB_iff] at *); (try simp only [inB_no] at *); omega)⟩, by simp only; omega, ?_⟩
           exact jw [])
    · obtain rfl : i = l.length := by omega
      repeat' ((conv => whnf); (first | refine k0 ?_ | refine jA fun _ => ?_ | refine jB fun _ => ?_ | refine kC (fun _ => ?_) fun _ => ?_ | (apply cx43; refine kl tx43 ?_) | refine jst ?_ | exact ⟨rfl, rfl⟩ | exact jV | fail))
      · exact ⟨by rw [fauOk_yes ⟨by omega, fun i h => hi.2 i h h⟩], rfl⟩
      · exact ⟨by rw [fauOk_no (fun q => by have := q.len; omega)], rfl⟩

theorem cx46 {P : Program} {X : FuncId → List Arg → List (Bool × List Cell) → List (Option (List Cell)) → Prop} {a : List Arg} {Q : List (Bool × List Cell) → List (Option (List Cell)) → Prop} (h : ∃ b vals outs, a = b ∧ D P X (.call 46 b vals outs) ∧ Q vals outs) : CallS P X 46 a Q := ⟨h⟩

set_option maxHeartbeats 2000000 in
set_option maxRecDepth 100000 in
theorem tx42 {d : Dsk} (hd : zD d ≤ 2000000 := by first | assumption | omega | (simp; done) | (simp; omega)) : T 42 [.val true (dskC false d)] [vB (dskOk d)] [none] := by
  obtain ⟨secs, cache, ops, faults, down⟩ := d
  have hz : secs.length + cnt List.length secs + (cache.length + cnt (fun w : Wri => w.b.length) cache) + faults.length ≤ 2000000 := hd
  dsimp only [dskC]
  refine w_call md [] Try.func42 rfl ?_
  cases down
  all_goals repeat' ((conv => whnf); (first | refine k0 ?_ | refine jA fun _ => ?_ | refine jB fun _ => ?_ | refine kC (fun _ => ?_) fun _ => ?_ | (apply cx19; refine kl tx19 ?_) | refine jst ?_ | exact ⟨rfl, rfl⟩ | exact jV | fail))
  all_goals try exact ⟨by rw [dskOk_no (fun q => by obtain ⟨a1, a2, a3, a4, a5, a6, a7, a8⟩ := q; dsimp only at *; (try simp only [inB_iff, inB_no] at *); first | omega | (have h5 := congrArg List.length (a5 (by first | rfl | trivial)); simp only [List.length_nil] at h5; omega))], rfl⟩
  all_goals
    conv => whnf
    refine loopk (ι := Nat) (fun i => i ≤ secs.length ∧ ∀ j (h : j < secs.length), j < i → secs[j].length ≤ 256) (fun i => secs.length - i) (0) [1, 43, 44] (fun i => [(45, .v false [i6 i])]) [none, none] ?_
    refine ⟨⟨by omega, by intros; omega⟩, ?_, fun i hi => ?_⟩
    · exact jw []
    · refine ⟨fun hlt => ?_, fun hge => ?_⟩
      · have hi2 : i < secs.length := by omega
        repeat' ((conv => whnf); (first | refine k0 ?_ | refine jA fun _ => ?_ | refine jB fun _ => ?_ | refine kC (fun _ => ?_) fun _ => ?_ | (apply cx19; refine kl tx19 ?_) | refine jst ?_ | exact ⟨rfl, rfl⟩ | exact jV | fail))
        · exact ⟨by rw [dskOk_no (fun q => by have := q.sec i hi2; dsimp only at *; omega)], rfl⟩
        · refine ⟨⟨i + 1, by omega, all_suc hi.2 hi2 (by (try simp only [inB_iff] at *); (try simp only [inB_no] at *); omega)⟩, by simp only; omega, ?_⟩
          exact jw []
      · obtain rfl : i = secs.length := by omega
        have hA := hi.2
        repeat' ((conv => whnf); (first | refine k0 ?_ | refine jA fun _ => ?_ | refine jB fun _ => ?_ | refine kC (fun _ => ?_) fun _ => ?_ | (apply cx19; refine kl tx19 ?_) | refine jst ?_ | exact ⟨rfl, rfl⟩ | exact jV | fail))
        conv => whnf
        refine loopk (ι := Nat) (fun i => i ≤ cache.length ∧ ∀ j (h : j < cache.length), j < i → 0 ≤ cache[j].n ∧ cache[j].n ≤ (secs.length : Int) - 1 ∧ cache[j].b.length ≤ 256) (fun i => cache.length - i) (0) [1, 54, 55] (fun i => [(56, .v false [i6 i])]) [none, none] ?_
        refine ⟨⟨by omega, by intros; omega⟩, ?_, fun i hi => ?_⟩
        · exact jw []
        · refine ⟨fun hlt => ?_, fun hge => ?_⟩
          · have hi2 : i < cache.length := by omega
            repeat' ((conv => whnf); (first | refine k0 ?_ | refine jA fun _ => ?_ | refine jB fun _ => ?_ | refine kC (fun _ => ?_) fun _ => ?_ | (apply cx19; refine kl tx19 ?_) | refine jst ?_ | exact ⟨rfl, rfl⟩ | exact jV | fail))
            all_goals first
              | exact ⟨by rw [dskOk_no (fun q => by have := q.wri i hi2; dsimp only at *; (try simp only [inB_iff] at *); (try simp only [inB_no] at *); omega)], rfl⟩
              | (refine ⟨⟨i + 1, by omega, all_suc hi.2 hi2 (by (try simp only [inB_iff] at *); (try simp only [inB_no] at *); omega)⟩, by simp only; omega, ?_⟩
                 exact jw [])
          · obtain rfl : i = cache.length := by omega
            have hB := hi.2
            repeat' ((conv => whnf); (first | refine k0 ?_ | refine jA fun _ => ?_ | refine jB fun _ => ?_ | refine kC (fun _ => ?_) fun _ => ?_ | (apply cx19; refine kl tx19 ?_) | refine jst ?_ | exact ⟨rfl, rfl⟩ | exact jV | fail))
            conv => whnf
            refine loopk (ι := Nat) (fun i => i ≤ faults.length ∧ ∀ j (h : j < faults.length), j < i → 0 ≤ faults[j].pos ∧ faults[j].pos ≤ 100000 ∧ 0 ≤ faults[j].keep ∧ faults[j].keep ≤ 1048575 ∧ 0 ≤ faults[j].cut ∧ faults[j].cut ≤ 256 ∧ (0 < j → faults[j - 1].pos < faults[j].pos)) (fun i => faults.length - i) (0) [1, 76, 77] (fun i => [(78, .v false [i6 i])]) [none, none] ?_
            refine ⟨⟨by omega, by intros; omega⟩, ?_, fun i hi => ?_⟩
            · exact jw []
            · refine ⟨fun hlt => ?_, fun hge => ?_⟩
              · have hi2 : i < faults.length := by omega
                repeat' ((conv => whnf); (first | refine And.intro ⟨by omega, by omega⟩ (Exists.intro _ (And.intro (rdI (i := i - 1) (by omega) (by omega)) ?_)) | refine k0 ?_ | refine jA fun _ => ?_ | refine jB fun _ => ?_ | refine kC (fun _ => ?_) fun _ => ?_ | (apply cx19; refine kl tx19 ?_) | refine jst ?_ | exact ⟨rfl, rfl⟩ | exact jV | fail))
                all_goals first
                  | exact ⟨by rw [dskOk_no (fun q => by have := q.fau i hi2; dsimp only at *; (try simp only [inB_iff] at *); (try simp only [inB_no] at *); omega)], rfl⟩
                  | (refine ⟨⟨i + 1, by omega, all_suc hi.2 hi2 (by (try simp only [inB_iff] at *); (try simp only [inB_no] at *); omega)⟩, by simp only; omega, ?_⟩
                     exact jw [])
              · obtain rfl : i = faults.length := by omega
                repeat' ((conv => whnf); (first | refine k0 ?_ | refine jA fun _ => ?_ | refine jB fun _ => ?_ | refine kC (fun _ => ?_) fun _ => ?_ | (apply cx19; refine kl tx19 ?_) | refine jst ?_ | exact ⟨rfl, rfl⟩ | exact jV | fail))
                exact ⟨by rw [dskOk_yes ⟨by dsimp only; (try simp only [inB_iff] at *); (try simp only [inB_no] at *); omega, by dsimp only; omega, by dsimp only; (try simp only [inB_iff] at *); (try simp only [inB_no] at *); omega, by dsimp only; omega, by dsimp only; first | (intro h; cases h; done) | (intro _; exact List.length_eq_zero_iff.1 (by omega)), fun j h => hA j h h, fun j h => hB j h h, fun j h => hi.2 j h h⟩], rfl⟩

theorem cx42 {P : Program} {X : FuncId → List Arg → List (Bool × List Cell) → List (Option (List Cell)) → Prop} {a : List Arg} {Q : List (Bool × List Cell) → List (Option (List Cell)) → Prop} (h : ∃ b vals outs, a = b ∧ D P X (.call 42 b vals outs) ∧ Q vals outs) : CallS P X 42 a Q := ⟨h⟩

end Go.Proofs.Ytmphoefccibibaa
