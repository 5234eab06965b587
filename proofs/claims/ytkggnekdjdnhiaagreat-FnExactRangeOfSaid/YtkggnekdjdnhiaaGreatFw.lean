/- Functions of the program, each with what it gives back. -/
import Derived.Test.YtkggnekdjdnhiaaGreatKe
import Derived.Test.YtkggnekdjdnhiaaGreatChecked
import Derived.IntWalk
import Derived.Test.YtkggnekdjdnhiaaGreatFs
namespace Go.Proofs.YtkggnekdjdnhiaaGreat
open Go Go.RowKit Go.IntWalk
open Enc (sz cs)
attribute [local irreducible] IntKind.wrap

attribute [local irreducible] gU gT gS gP gM ptP ptM ptS crcN rdS bdN gN pgA ndA vis prsF

theorem bless_tri : ∀ a b : List UInt8, (Op.bytesLess a b || a == b) = !Op.bytesLess b a
  | [], [] => rfl
  | [], _ :: _ => rfl
  | _ :: _, [] => rfl
  | x :: a, y :: b => by
    have ih := bless_tri a b
    rw [Op.bytesLess, Op.bytesLess, List.cons_beq_cons]
    by_cases h1 : x < y
    · have h2 : ¬ y < x := fun q => by have := UInt8.lt_iff_toNat_lt.1 h1; have := UInt8.lt_iff_toNat_lt.1 q; omega
      have h3 : (y == x) = false := beq_eq_false_iff_ne.2 fun e => by subst e; exact h2 h1
      simp [h1, h2, h3]
    · by_cases h2 : y < x
      · have h3 : (x == y) = false := beq_eq_false_iff_ne.2 fun e => by subst e; exact h1 h2
        simp [h1, h2, h3]
      · have h3 : x = y := UInt8.toNat_inj.1 (by have a1 := mt UInt8.lt_iff_toNat_lt.2 h1; have a2 := mt UInt8.lt_iff_toNat_lt.2 h2; omega)
        subst h3
        simp [h1, ← ih]
theorem ble_iff {a b : ByteArray} : (Op.bytesLess a.toList b.toList || a.toList == b.toList) = true ↔ (!Op.bytesLess b.toList a.toList) = true := by rw [bless_tri]
/-- Is it between? -/
def btw (lo hi : ByteArray) (p : Pai) : Bool := !Op.bytesLess p.key.toList lo.toList && Op.bytesLess p.key.toList hi.toList
/-- Of the first `i`, those between, `n` at most. -/
def rgI (lo hi : ByteArray) (n : Int) (l : List Pai) (i : Nat) : List Pai := ((l.take i).filter (btw lo hi)).take n.toNat
theorem rgI_no {lo hi : ByteArray} {n : Int} {l : List Pai} {i : Nat} (hi2 : i < l.length) (h : btw lo hi l[i] = false ∨ ¬ (((rgI lo hi n l i).length : Nat) : Int) < n) : rgI lo hi n l (i + 1) = rgI lo hi n l i := by
  unfold rgI at *
  rw [take_one hi2, List.filter_append]
  by_cases hb : btw lo hi l[i] = true
  · rcases h with h | h
    · rw [h] at hb; cases hb
    · rw [List.filter_cons_of_pos hb, List.filter_nil, List.take_append_of_le_length]
      rw [List.length_take] at h; omega
  · rw [List.filter_cons_of_neg hb, List.filter_nil, List.append_nil]
theorem rgI_yes {lo hi : ByteArray} {n : Int} {l : List Pai} {i : Nat} (hi2 : i < l.length) (h : btw lo hi l[i] = true) (h2 : (((rgI lo hi n l i).length : Nat) : Int) < n) : rgI lo hi n l (i + 1) = rgI lo hi n l i ++ [l[i]] := by
  unfold rgI at *
  rw [List.length_take] at h2
  rw [take_one hi2, List.filter_append, List.filter_cons_of_pos h, List.filter_nil]
  generalize (l.take i).filter (btw lo hi) = F at *
  have hF : F.length < n.toNat := by omega
  rw [List.take_of_length_le (l := F) (by omega), List.take_of_length_le (l := F ++ [l[i]]) (by rw [List.length_append, List.length_singleton]; omega)]
theorem rgI_len {lo hi : ByteArray} {n : Int} {l : List Pai} {i : Nat} (hi2 : i ≤ l.length) : (rgI lo hi n l i).length ≤ l.length := by
  unfold rgI
  have := List.length_filter_le (btw lo hi) (l.take i)
  simp at *; omega
/-- The pairs as they are gone through. -/
def rvL (rev : Bool) (l : List Pai) : List Pai := if rev then l.reverse else l

theorem rvL_len (rev : Bool) (l : List Pai) : (rvL rev l).length = l.length := by unfold rvL; split <;> simp
theorem rvL_f {l : List Pai} {i : Nat} (h : i < l.length) : (rvL false l)[i]'(by rw [rvL_len]; exact h) = l[i] := rfl
theorem rvL_t {l : List Pai} {i : Nat} (h : i < l.length) : (rvL true l)[i]'(by rw [rvL_len]; exact h) = l[l.length - 1 - i] := by simp [rvL]
theorem btw_yes {lo up : ByteArray} {p : Pai} (h : (Op.bytesLess lo.toList p.key.toList || lo.toList == p.key.toList) = true) (h2 : Op.bytesLess p.key.toList up.toList = true) : btw lo up p = true := by unfold btw; rw [ble_iff.1 h, h2]; rfl
theorem btw_yes2 {lo up : ByteArray} {p : Pai} (h : (!Op.bytesLess p.key.toList lo.toList) = true) (h2 : Op.bytesLess p.key.toList up.toList = true) : btw lo up p = true := by unfold btw; rw [h, h2]; rfl
theorem btw_no1 {lo up : ByteArray} {p : Pai} (h : ¬ (Op.bytesLess lo.toList p.key.toList || lo.toList == p.key.toList) = true) : btw lo up p = false := by
  unfold btw
  rw [show (!Op.bytesLess p.key.toList lo.toList) = false by cases e : (!Op.bytesLess p.key.toList lo.toList) with | false => rfl | true => exact absurd (ble_iff.2 e) h]; rfl
theorem btw_no3 {lo up : ByteArray} {p : Pai} (h : ¬ (!Op.bytesLess p.key.toList lo.toList) = true) : btw lo up p = false := by
  unfold btw
  rw [show (!Op.bytesLess p.key.toList lo.toList) = false by cases e : (!Op.bytesLess p.key.toList lo.toList) with | false => rfl | true => exact absurd e h]; rfl
theorem btw_no2 {lo up : ByteArray} {p : Pai} (h : ¬ Op.bytesLess p.key.toList up.toList = true) : btw lo up p = false := by
  unfold btw
  rw [show Op.bytesLess p.key.toList up.toList = false by cases e : Op.bytesLess p.key.toList up.toList with | false => rfl | true => exact absurd e h, Bool.and_false]
noncomputable def rngF (t : Txn) (lo hi : ByteArray) (rev : Bool) (n : Int) : List Pai := rgI lo hi n (rvL rev (prsF t)) (prsF t).length

set_option maxRecDepth 100000 in
theorem tx10 {t : Txn} {lo up : ByteArray} {rev : Bool} {n : Int} (ht : zT t ≤ 1100000 := by first | assumption | omega | (simp; done) | (simp; omega)) : T 10 [.val true (txnC false t), aS lo, aS up, .val false [b1 rev], aI n] [vE (rngF t lo up rev n)] [none, none, none, none, none] := by
  refine w_call md [] Tryz.func10 rfl ?_
  have hl := prsF_len ht
  have hrl := rvL_len rev (prsF t)
  repeat' ((conv => whnf); (first | refine k0 ?_ | refine jA fun _ => ?_ | refine jB fun _ => ?_ | refine kC (fun _ => ?_) fun _ => ?_ | refine jS ?_ | refine jI ?_ | (apply cx34; refine kl tx34 ?_) | refine jD ?_ | refine ⟨snc, _, snr, ?_⟩ | refine ⟨⟨Nat.le_refl _, rfl⟩, [], rfl, ?_⟩ | refine And.intro ⟨rfl, rfl, by decide, rfl⟩ ?_ | refine jP ?_ | refine jO ?_ | refine jX ?_ | refine jb jr ?_ | refine jb ofs ?_ | refine ko jc ?_ | refine ko jp ?_ | refine jM ?_ | refine kr ?_ | refine ko rfl ?_ | refine And.intro (cs_shal _) ?_ | refine And.intro (rfl : List.all _ _ = true) ?_ | refine And.intro ⟨rfl, (rfl : List.all _ _ = true)⟩ ?_ | exact ⟨rfl, rfl⟩ | exact jV | fail))
  conv => whnf
  refine loopk (ι := Nat × List Pai) (fun i => i.1 ≤ (prsF t).length ∧ i.2 = rgI lo up n (rvL rev (prsF t)) i.1) (fun i => (prsF t).length - i.1) ((0, [])) [1, 2, 3, 4, 18] (fun i => [(12, .v false [.ref 6 0 (prsF t).length 2]), (11, .v false [.ref 7 0 i.2.length 2]), (19, .v false [i6 i.1])]) [none, none, none, none, none, none, some fun _ => nE (prsF t), some fun i => nE i.2] ?_
  refine ⟨⟨by omega, by simp [rgI]⟩, ?_, fun ⟨a, l⟩ hi => ?_⟩
  · exact (w_virt 11 2 rfl rfl).trans (jw [])
  · dsimp only at hi ⊢
    obtain ⟨hi, hl2⟩ := hi
    have hll := rgI_len (lo := lo) (hi := up) (n := n) (l := rvL rev (prsF t)) (i := a) (by omega)
    rw [← hl2] at hll
    have hsn : (a, l).2.length = l.length := rfl
    refine ⟨fun hlt => ?_, fun hge => ?_⟩
    · have hi2 : a < (prsF t).length := by omega
      have hj : (prsF t).length - 1 - a < (prsF t).length := by omega
      cases rev
      · have e1 : (rvL false (prsF t))[a]'(by omega) = (prsF t)[a] := rvL_f hi2
        repeat' ((conv => whnf); (first | refine jap (h2 := bgQ (by first | omega | (simp only; omega) | (simp; omega))) (h3 := bgP (by first | omega | (simp only; omega) | (simp; omega))) (apP ?_) | refine k0 ?_ | refine jA fun _ => ?_ | refine jB fun _ => ?_ | refine kC (fun _ => ?_) fun _ => ?_ | refine jS ?_ | refine jI ?_ | (apply cx34; refine kl tx34 ?_) | refine jD ?_ | refine ⟨snc, _, snr, ?_⟩ | refine ⟨⟨Nat.le_refl _, rfl⟩, [], rfl, ?_⟩ | refine And.intro ⟨rfl, rfl, by decide, rfl⟩ ?_ | refine jP ?_ | refine jO ?_ | refine jX ?_ | refine jb jr ?_ | refine jb ofs ?_ | refine ko jc ?_ | refine ko jp ?_ | refine jM ?_ | refine kr ?_ | refine ko rfl ?_ | refine And.intro (cs_shal _) ?_ | refine And.intro (rfl : List.all _ _ = true) ?_ | refine And.intro ⟨rfl, (rfl : List.all _ _ = true)⟩ ?_ | exact ⟨rfl, rfl⟩ | exact jV | fail))
        all_goals first
          | (refine ⟨⟨(a + 1, l ++ [(prsF t)[a]]), by dsimp only; omega, by dsimp only; rw [hl2, rgI_yes (by omega) (by rw [e1]; first | exact btw_yes ‹_› ‹_› | exact btw_yes2 ‹_› ‹_›) (by rw [← hl2]; exact ‹_›), e1]⟩, by simp only; omega, ?_⟩
             exact jw [])
          | (refine ⟨⟨(a + 1, l), by dsimp only; omega, by dsimp only; rw [hl2, rgI_no (by omega) (by first | exact .inr (by rw [← hl2]; exact ‹_›) | exact .inl (by rw [e1]; first | exact btw_no1 ‹_› | exact btw_no2 ‹_› | exact btw_no3 ‹_›))]⟩, by simp only; omega, ?_⟩
             exact jw [])
      · have e1 : (rvL true (prsF t))[a]'(by omega) = (prsF t)[(prsF t).length - 1 - a] := rvL_t hi2
        repeat' ((conv => whnf); (first | refine jap (h2 := bgQ (by first | omega | (simp only; omega) | (simp; omega))) (h3 := bgP (by first | omega | (simp only; omega) | (simp; omega))) (apP ?_) | refine And.intro ⟨by omega, by omega⟩ (Exists.intro _ (And.intro (rdI (i := (prsF t).length - 1 - a) (by omega) hj) ?_)) | refine kb ⟨by omega, by omega⟩ (show 0 + (((((prsF t).length : Nat) : Int) - 1) - (a : Nat)).toNat * 2 = ((prsF t).length - 1 - a) * 2 by omega) ?_ | refine ko (ct0 (i := (prsF t).length - 1 - a) hj) ?_ | refine k0 ?_ | refine jA fun _ => ?_ | refine jB fun _ => ?_ | refine kC (fun _ => ?_) fun _ => ?_ | refine jS ?_ | refine jI ?_ | (apply cx34; refine kl tx34 ?_) | refine jD ?_ | refine ⟨snc, _, snr, ?_⟩ | refine ⟨⟨Nat.le_refl _, rfl⟩, [], rfl, ?_⟩ | refine And.intro ⟨rfl, rfl, by decide, rfl⟩ ?_ | refine jP ?_ | refine jO ?_ | refine jX ?_ | refine jb jr ?_ | refine jb ofs ?_ | refine ko jc ?_ | refine ko jp ?_ | refine jM ?_ | refine kr ?_ | refine ko rfl ?_ | refine And.intro (cs_shal _) ?_ | refine And.intro (rfl : List.all _ _ = true) ?_ | refine And.intro ⟨rfl, (rfl : List.all _ _ = true)⟩ ?_ | exact ⟨rfl, rfl⟩ | exact jV | fail))
        all_goals first
          | (refine ⟨⟨(a + 1, l ++ [(prsF t)[(prsF t).length - 1 - a]]), by dsimp only; omega, by dsimp only; rw [hl2, rgI_yes (by omega) (by rw [e1]; first | exact btw_yes ‹_› ‹_› | exact btw_yes2 ‹_› ‹_›) (by rw [← hl2]; exact ‹_›), e1]⟩, by simp only; omega, ?_⟩
             exact jw [])
          | (refine ⟨⟨(a + 1, l), by dsimp only; omega, by dsimp only; rw [hl2, rgI_no (by omega) (by first | exact .inr (by rw [← hl2]; exact ‹_›) | exact .inl (by rw [e1]; first | exact btw_no1 ‹_› | exact btw_no2 ‹_› | exact btw_no3 ‹_›))]⟩, by simp only; omega, ?_⟩
             exact jw [])
    · have hae : a = (prsF t).length := by omega
      rw [show rngF t lo up rev n = l by rw [hl2, hae]; rfl]
      repeat' ((conv => whnf); (first | refine k0 ?_ | refine jA fun _ => ?_ | refine jB fun _ => ?_ | refine kC (fun _ => ?_) fun _ => ?_ | refine jS ?_ | refine jI ?_ | (apply cx34; refine kl tx34 ?_) | refine jD ?_ | refine ⟨snc, _, snr, ?_⟩ | refine ⟨⟨Nat.le_refl _, rfl⟩, [], rfl, ?_⟩ | refine And.intro ⟨rfl, rfl, by decide, rfl⟩ ?_ | refine jP ?_ | refine jO ?_ | refine jX ?_ | refine jb jr ?_ | refine jb ofs ?_ | refine ko jc ?_ | refine ko jp ?_ | refine jM ?_ | refine kr ?_ | refine ko rfl ?_ | refine And.intro (cs_shal _) ?_ | refine And.intro (rfl : List.all _ _ = true) ?_ | refine And.intro ⟨rfl, (rfl : List.all _ _ = true)⟩ ?_ | exact ⟨rfl, rfl⟩ | exact jV | fail))

theorem cx10 {P : Program} {X : FuncId → List Arg → List (Bool × List Cell) → List (Option (List Cell)) → Prop} {a : List Arg} {Q : List (Bool × List Cell) → List (Option (List Cell)) → Prop} (h : ∃ b vals outs, a = b ∧ D P X (.call 10 b vals outs) ∧ Q vals outs) : CallS P X 10 a Q := ⟨h⟩

set_option maxRecDepth 100000 in
theorem tx8 {t : Txn} {lo up : ByteArray} {rev : Bool} {n : Int} (ht : zT t ≤ 1100000 := by first | assumption | omega | (simp; done) | (simp; omega)) : T 8 [.val true (txnC false t), aS lo, aS up, .val false [b1 rev], aI n] [vE (rngF t lo up rev n)] [none, none, none, none, none] := by
  refine w_call md [] Tryz.func8 rfl ?_
  have hl := prsF_len ht
  have hrl := rvL_len rev (prsF t)
  repeat' ((conv => whnf); (first | refine k0 ?_ | refine jA fun _ => ?_ | refine jB fun _ => ?_ | refine kC (fun _ => ?_) fun _ => ?_ | refine jS ?_ | refine jI ?_ | (apply cx30; refine kl tx30 ?_) | refine jD ?_ | refine ⟨snc, _, snr, ?_⟩ | refine ⟨⟨Nat.le_refl _, rfl⟩, [], rfl, ?_⟩ | refine And.intro ⟨rfl, rfl, by decide, rfl⟩ ?_ | refine jP ?_ | refine jO ?_ | refine jX ?_ | refine jb jr ?_ | refine jb ofs ?_ | refine ko jc ?_ | refine ko jp ?_ | refine jM ?_ | refine kr ?_ | refine ko rfl ?_ | refine And.intro (cs_shal _) ?_ | refine And.intro (rfl : List.all _ _ = true) ?_ | refine And.intro ⟨rfl, (rfl : List.all _ _ = true)⟩ ?_ | exact ⟨rfl, rfl⟩ | exact jV | fail))
  conv => whnf
  refine loopk (ι := Nat × List Pai) (fun i => i.1 ≤ (prsF t).length ∧ i.2 = rgI lo up n (rvL rev (prsF t)) i.1) (fun i => (prsF t).length - i.1) ((0, [])) [1, 2, 3, 4] (fun i => [(11, .v false [.ref 6 0 (prsF t).length 2]), (12, .v false [.ref 7 0 i.2.length 2]), (13, .v false [i6 i.1])]) [none, none, none, none, none, none, some fun _ => nE (prsF t), some fun i => nE i.2] ?_
  refine ⟨⟨by omega, by simp [rgI]⟩, ?_, fun ⟨a, l⟩ hi => ?_⟩
  · exact jw []
  · dsimp only at hi ⊢
    obtain ⟨hi, hl2⟩ := hi
    have hll := rgI_len (lo := lo) (hi := up) (n := n) (l := rvL rev (prsF t)) (i := a) (by omega)
    rw [← hl2] at hll
    have hsn : (a, l).2.length = l.length := rfl
    repeat' ((conv => whnf); (first | refine k0 ?_ | refine jS ?_ | refine jI ?_ | (apply cx30; refine kl tx30 ?_) | refine jD ?_ | refine ⟨snc, _, snr, ?_⟩ | refine ⟨⟨Nat.le_refl _, rfl⟩, [], rfl, ?_⟩ | refine And.intro ⟨rfl, rfl, by decide, rfl⟩ ?_ | refine jP ?_ | refine jO ?_ | refine jX ?_ | refine jb jr ?_ | refine jb ofs ?_ | refine ko jc ?_ | refine ko jp ?_ | refine jM ?_ | refine kr ?_ | refine ko rfl ?_ | refine And.intro (cs_shal _) ?_ | refine And.intro (rfl : List.all _ _ = true) ?_ | refine And.intro ⟨rfl, (rfl : List.all _ _ = true)⟩ ?_ | exact ⟨rfl, rfl⟩ | exact jV | fail))
    conv => whnf
    refine ⟨fun hlt => ?_, fun hge => ?_⟩
    · have hi2 : a < (prsF t).length := by omega
      have hj : (prsF t).length - 1 - a < (prsF t).length := by omega
      cases rev
      · have e1 : (rvL false (prsF t))[a]'(by omega) = (prsF t)[a] := rvL_f hi2
        repeat' ((conv => whnf); (first | refine jap (h2 := bgQ (by first | omega | (simp only; omega) | (simp; omega))) (h3 := bgP (by first | omega | (simp only; omega) | (simp; omega))) (apP ?_) | refine ko ((ct (i := a) (off := 0) (n := 1) hi2 (by decide)).trans rfl) ?_ | refine k0 ?_ | refine jA fun _ => ?_ | refine jB fun _ => ?_ | refine kC (fun _ => ?_) fun _ => ?_ | refine jS ?_ | refine jI ?_ | (apply cx30; refine kl tx30 ?_) | refine jD ?_ | refine ⟨snc, _, snr, ?_⟩ | refine ⟨⟨Nat.le_refl _, rfl⟩, [], rfl, ?_⟩ | refine And.intro ⟨rfl, rfl, by decide, rfl⟩ ?_ | refine jP ?_ | refine jO ?_ | refine jX ?_ | refine jb jr ?_ | refine jb ofs ?_ | refine ko jc ?_ | refine ko jp ?_ | refine jM ?_ | refine kr ?_ | refine ko rfl ?_ | refine And.intro (cs_shal _) ?_ | refine And.intro (rfl : List.all _ _ = true) ?_ | refine And.intro ⟨rfl, (rfl : List.all _ _ = true)⟩ ?_ | exact ⟨rfl, rfl⟩ | exact jV | fail))
        all_goals first
          | (refine ⟨⟨(a + 1, l ++ [(prsF t)[a]]), by dsimp only; omega, by dsimp only; rw [hl2, rgI_yes (by omega) (by rw [e1]; first | exact btw_yes ‹_› ‹_› | exact btw_yes2 ‹_› ‹_›) (by rw [← hl2]; exact ‹_›), e1]⟩, by simp only; omega, ?_⟩
             exact jw [])
          | (refine ⟨⟨(a + 1, l), by dsimp only; omega, by dsimp only; rw [hl2, rgI_no (by omega) (by first | exact .inr (by rw [← hl2]; exact ‹_›) | exact .inl (by rw [e1]; first | exact btw_no1 ‹_› | exact btw_no2 ‹_› | exact btw_no3 ‹_›))]⟩, by simp only; omega, ?_⟩
             exact jw [])
      · have e1 : (rvL true (prsF t))[a]'(by omega) = (prsF t)[(prsF t).length - 1 - a] := rvL_t hi2
        repeat' ((conv => whnf); (first | refine jap (h2 := bgQ (by first | omega | (simp only; omega) | (simp; omega))) (h3 := bgP (by first | omega | (simp only; omega) | (simp; omega))) (apP ?_) | refine And.intro ⟨by omega, by omega⟩ (Exists.intro _ (And.intro (rdI (i := (prsF t).length - 1 - a) (by omega) hj) ?_)) | refine kb ⟨by omega, by omega⟩ (show 0 + (((((prsF t).length : Nat) : Int) - 1) - (a : Nat)).toNat * 2 = ((prsF t).length - 1 - a) * 2 by omega) ?_ | refine ko (ct0 (i := (prsF t).length - 1 - a) hj) ?_ | refine ko ((ct (i := (prsF t).length - 1 - a) (off := 0) (n := 1) hj (by decide)).trans rfl) ?_ | refine k0 ?_ | refine jA fun _ => ?_ | refine jB fun _ => ?_ | refine kC (fun _ => ?_) fun _ => ?_ | refine jS ?_ | refine jI ?_ | (apply cx30; refine kl tx30 ?_) | refine jD ?_ | refine ⟨snc, _, snr, ?_⟩ | refine ⟨⟨Nat.le_refl _, rfl⟩, [], rfl, ?_⟩ | refine And.intro ⟨rfl, rfl, by decide, rfl⟩ ?_ | refine jP ?_ | refine jO ?_ | refine jX ?_ | refine jb jr ?_ | refine jb ofs ?_ | refine ko jc ?_ | refine ko jp ?_ | refine jM ?_ | refine kr ?_ | refine ko rfl ?_ | refine And.intro (cs_shal _) ?_ | refine And.intro (rfl : List.all _ _ = true) ?_ | refine And.intro ⟨rfl, (rfl : List.all _ _ = true)⟩ ?_ | exact ⟨rfl, rfl⟩ | exact jV | fail))
        all_goals first
          | (refine ⟨⟨(a + 1, l ++ [(prsF t)[(prsF t).length - 1 - a]]), by dsimp only; omega, by dsimp only; rw [hl2, rgI_yes (by omega) (by rw [e1]; first | exact btw_yes ‹_› ‹_› | exact btw_yes2 ‹_› ‹_›) (by rw [← hl2]; exact ‹_›), e1]⟩, by simp only; omega, ?_⟩
             exact jw [])
          | (refine ⟨⟨(a + 1, l), by dsimp only; omega, by dsimp only; rw [hl2, rgI_no (by omega) (by first | exact .inr (by rw [← hl2]; exact ‹_›) | exact .inl (by rw [e1]; first | exact btw_no1 ‹_› | exact btw_no2 ‹_› | exact btw_no3 ‹_›))]⟩, by simp only; omega, ?_⟩
             exact jw [])
    · have hae : a = (prsF t).length := by omega
      rw [show rngF t lo up rev n = l by rw [hl2, hae]; rfl]
      repeat' ((conv => whnf); (first | refine k0 ?_ | refine jA fun _ => ?_ | refine jB fun _ => ?_ | refine kC (fun _ => ?_) fun _ => ?_ | refine jS ?_ | refine jI ?_ | (apply cx30; refine kl tx30 ?_) | refine jD ?_ | refine ⟨snc, _, snr, ?_⟩ | refine ⟨⟨Nat.le_refl _, rfl⟩, [], rfl, ?_⟩ | refine And.intro ⟨rfl, rfl, by decide, rfl⟩ ?_ | refine jP ?_ | refine jO ?_ | refine jX ?_ | refine jb jr ?_ | refine jb ofs ?_ | refine ko jc ?_ | refine ko jp ?_ | refine jM ?_ | refine kr ?_ | refine ko rfl ?_ | refine And.intro (cs_shal _) ?_ | refine And.intro (rfl : List.all _ _ = true) ?_ | refine And.intro ⟨rfl, (rfl : List.all _ _ = true)⟩ ?_ | exact ⟨rfl, rfl⟩ | exact jV | fail))

theorem cx8 {P : Program} {X : FuncId → List Arg → List (Bool × List Cell) → List (Option (List Cell)) → Prop} {a : List Arg} {Q : List (Bool × List Cell) → List (Option (List Cell)) → Prop} (h : ∃ b vals outs, a = b ∧ D P X (.call 8 b vals outs) ∧ Q vals outs) : CallS P X 8 a Q := ⟨h⟩

end Go.Proofs.YtkggnekdjdnhiaaGreat
