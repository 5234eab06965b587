/- Functions of the program, each with what it gives back. -/
import Derived.Test.YtmphoefccibibaaKe
import Derived.Test.YtmphoefccibibaaChecked
import Derived.IntWalk
import Derived.Test.YtmphoefccibibaaFb
namespace Go.Proofs.Ytmphoefccibibaa
open Go Go.RowKit Go.IntWalk
open Enc (sz cs)
attribute [local irreducible] IntKind.wrap

theorem dU_step {k n f : Nat} {x : UInt8} {r : List UInt8} (h : 128 ≤ x.toNat) : dU k n (f + 1) (x :: r) = dU (k + 1) (n + x.toNat % 128 * 2 ^ (7 * k)) f r := by rw [dU, if_pos h]
theorem dU_end {k n f : Nat} {x : UInt8} {r : List UInt8} (h : ¬ 128 ≤ x.toNat) (h2 : ¬ ((x.toNat = 0 ∧ 0 < k) ∨ 1000000 < n + x.toNat % 128 * 2 ^ (7 * k))) : dU k n (f + 1) (x :: r) = (n + x.toNat % 128 * 2 ^ (7 * k), k + 1, true) := by rw [dU, if_neg h, if_neg h2]
theorem dU_bad {k n f : Nat} {x : UInt8} {r : List UInt8} (h : ¬ 128 ≤ x.toNat) (h2 : (x.toNat = 0 ∧ 0 < k) ∨ 1000000 < n + x.toNat % 128 * 2 ^ (7 * k)) : dU k n (f + 1) (x :: r) = (0, 0, false) := by rw [dU, if_neg h, if_pos h2]
/-- What is still to be read. -/
def gUr (b : List UInt8) (p k n : Nat) : Nat × Nat × Bool := match dU k n (3 - k) (b.drop (p + k)) with
  | (n, c, true) => (n, p + c, true)
  | _ => (0, 0, false)
theorem gU_r {b : List UInt8} {p : Nat} : gU b (p : Int) = gUr b p 0 0 := by
  unfold gU gUr
  rw [if_pos (by omega), Int.toNat_natCast]; rfl
theorem gU_neg {b : List UInt8} {p : Int} (h : p < 0) : gU b p = (0, 0, false) := by unfold gU; rw [if_neg (by omega)]
theorem gUr_out {b : List UInt8} {p k n : Nat} (h : 3 ≤ k ∨ b.length ≤ p + k) : gUr b p k n = (0, 0, false) := by
  unfold gUr
  have e : dU k n (3 - k) (b.drop (p + k)) = (0, 0, false) := by
    rcases h with h | h
    · rw [show 3 - k = 0 by omega]; cases b.drop (p + k) <;> rfl
    · rw [List.drop_eq_nil_of_le h]; cases 3 - k <;> rfl
  rw [e]
theorem gUr_step {b : List UInt8} {p k n : Nat} (hk : k < 3) (h : p + k < b.length) (h1 : 128 ≤ b[p + k].toNat) : gUr b p k n = gUr b p (k + 1) (n + b[p + k].toNat % 128 * 2 ^ (7 * k)) := by
  unfold gUr
  rw [List.drop_eq_getElem_cons h, show 3 - k = 3 - (k + 1) + 1 by omega, dU_step h1]; rfl
theorem gUr_end {b : List UInt8} {p k n : Nat} (hk : k < 3) (h : p + k < b.length) (h1 : ¬ 128 ≤ b[p + k].toNat) (h2 : ¬ ((b[p + k].toNat = 0 ∧ 0 < k) ∨ 1000000 < n + b[p + k].toNat % 128 * 2 ^ (7 * k))) : gUr b p k n = (n + b[p + k].toNat % 128 * 2 ^ (7 * k), p + (k + 1), true) := by
  unfold gUr
  rw [List.drop_eq_getElem_cons h, show 3 - k = 3 - (k + 1) + 1 by omega, dU_end h1 h2]
theorem gUr_bad {b : List UInt8} {p k n : Nat} (hk : k < 3) (h : p + k < b.length) (h1 : ¬ 128 ≤ b[p + k].toNat) (h2 : (b[p + k].toNat = 0 ∧ 0 < k) ∨ 1000000 < n + b[p + k].toNat % 128 * 2 ^ (7 * k)) : gUr b p k n = (0, 0, false) := by
  unfold gUr
  rw [List.drop_eq_getElem_cons h, show 3 - k = 3 - (k + 1) + 1 by omega, dU_bad h1 h2]
theorem pw {k : Nat} (h : k ≤ 2) : 2 ^ (7 * k) ≤ 16384 ∧ 128 ^ k = 2 ^ (7 * k) := by
  have : k = 0 ∨ k = 1 ∨ k = 2 := by omega
  rcases this with rfl | rfl | rfl <;> decide
theorem pw1 {k : Nat} : 128 ^ (k + 1) = 2 ^ (7 * k) * 128 := by rw [Nat.pow_succ, show 128 = 2 ^ 7 by rfl, ← Nat.pow_mul]
theorem shlN {x k : Nat} (hk : k ≤ 2) (hx : x < 128) : IntKind.i64.wrap ((x : Int) * 2 ^ (min (((7 * k : Nat) : Int)).toNat IntKind.i64.bits)) = ((x * 2 ^ (7 * k) : Nat) : Int) := by
  have e : min (((7 * k : Nat) : Int)).toNat IntKind.i64.bits = 7 * k := by
    rw [Int.toNat_natCast]; show min (7 * k) 64 = _; omega
  have h1 := (pw hk).1
  have h2 : x * 2 ^ (7 * k) ≤ 127 * 16384 := Nat.mul_le_mul (by omega) h1
  rw [e, show (x : Int) * 2 ^ (7 * k) = ((x * 2 ^ (7 * k) : Nat) : Int) by simp]
  exact i64_of (by omega)
theorem orN {n y k : Nat} (hk : k ≤ 2) (hy : y < 128) (hn : n < 2 ^ (7 * k)) : IntKind.i64.wrap ((BitVec.ofInt IntKind.i64.bits (n : Int) ||| BitVec.ofInt IntKind.i64.bits ((y * 2 ^ (7 * k) : Nat) : Int)).toNat : Int) = ((n + y * 2 ^ (7 * k) : Nat) : Int) := by
  have h1 := (pw hk).1
  have h2 : y * 2 ^ (7 * k) ≤ 127 * 16384 := Nat.mul_le_mul (by omega) h1
  have e : (BitVec.ofInt IntKind.i64.bits (n : Int) ||| BitVec.ofInt IntKind.i64.bits ((y * 2 ^ (7 * k) : Nat) : Int)).toNat = n + y * 2 ^ (7 * k) := by
    show (BitVec.ofInt 64 (n : Int) ||| BitVec.ofInt 64 ((y * 2 ^ (7 * k) : Nat) : Int)).toNat = n + y * 2 ^ (7 * k)
    rw [ofInt_nat, ofInt_nat, BitVec.toNat_or, BitVec.toNat_ofNat, BitVec.toNat_ofNat, Nat.mod_eq_of_lt (by omega), Nat.mod_eq_of_lt (by omega)]
    have := Nat.two_pow_add_eq_or_of_lt hn y
    rw [Nat.or_comm, Nat.mul_comm y, ← this, Nat.add_comm]
  rw [e]; exact i64_of (by omega)
theorem u64_of {n : Nat} (h : n ≤ 9223372036854775807) : IntKind.u64.wrap (n : Int) = n := u64_in _ (by omega)
theorem mul7 {k : Nat} (h : k ≤ 2) : IntKind.i64.wrap (7 * (k : Int)) = ((7 * k : Nat) : Int) := (i64_in _ (by omega)).trans (by omega)
theorem shlW {x k w : Nat} (hw : 2 ^ (7 * k) = w) (hk : k ≤ 2) (hx : x < 128) : IntKind.i64.wrap ((x : Int) * 2 ^ (min (((7 * k : Nat) : Int)).toNat IntKind.i64.bits)) = ((x * w : Nat) : Int) := by subst hw; exact shlN hk hx
theorem orW {n y k w : Nat} (hw : 2 ^ (7 * k) = w) (hk : k ≤ 2) (hy : y < 128) (hn : n < w) : IntKind.i64.wrap ((BitVec.ofInt IntKind.i64.bits (n : Int) ||| BitVec.ofInt IntKind.i64.bits ((y * w : Nat) : Int)).toNat : Int) = ((n + y * w : Nat) : Int) := by subst hw; exact orN hk hy hn

set_option maxHeartbeats 2000000 in
set_option maxRecDepth 100000 in
theorem tx22 {b : List UInt8} {p : Int} (hb : b.length ≤ 1000000000000000 := by first | assumption | omega | (simp; done) | (simp; omega)) (hpb : p ≤ 9000000000000000000 := by first | assumption | omega | (simp; done) | (simp; omega)) : T 22 [aE b, aI p] [vI (gU b p).1, vI (gU b p).2.1, vB (gU b p).2.2] [none, none] := by
  refine w_call md [] Try.func22 rfl ?_
  by_cases hp : p < 0
  · rw [gU_neg hp]
    repeat' ((conv => whnf); (first | refine k0 ?_ | refine jA fun _ => ?_ | refine jB fun _ => ?_ | refine kC (fun _ => ?_) fun _ => ?_ | refine jS ?_ | refine jI ?_ | refine jD ?_ | refine ⟨snc, _, snr, ?_⟩ | refine ⟨⟨Nat.le_refl _, rfl⟩, [], rfl, ?_⟩ | refine And.intro ⟨rfl, rfl, by decide, rfl⟩ ?_ | refine jP ?_ | refine jO ?_ | refine jX ?_ | refine jb jr ?_ | refine jb ofs ?_ | refine ko jc ?_ | refine ko jp ?_ | refine jM ?_ | refine kr ?_ | refine ko rfl ?_ | refine And.intro (cs_shal _) ?_ | refine And.intro (rfl : List.all _ _ = true) ?_ | refine And.intro ⟨rfl, (rfl : List.all _ _ = true)⟩ ?_ | exact ⟨rfl, rfl⟩ | exact jV | fail))
    conv => whnf
    refine loopk (ι := Nat) (fun i => i = 0) (fun i => 0) (0) [0, 1] (fun i => [(7, .v false [i6 0]), (8, .v false [i6 0])]) [none, none] ?_
    refine ⟨rfl, ?_, fun i hi => ?_⟩
    · exact jw []
    · repeat' ((conv => whnf); (first | refine k0 ?_ | refine jA fun _ => ?_ | refine jB fun _ => ?_ | refine kC (fun _ => ?_) fun _ => ?_ | refine jS ?_ | refine jI ?_ | refine jD ?_ | refine ⟨snc, _, snr, ?_⟩ | refine ⟨⟨Nat.le_refl _, rfl⟩, [], rfl, ?_⟩ | refine And.intro ⟨rfl, rfl, by decide, rfl⟩ ?_ | refine jP ?_ | refine jO ?_ | refine jX ?_ | refine jb jr ?_ | refine jb ofs ?_ | refine ko jc ?_ | refine ko jp ?_ | refine jM ?_ | refine kr ?_ | refine ko rfl ?_ | refine And.intro (cs_shal _) ?_ | refine And.intro (rfl : List.all _ _ = true) ?_ | refine And.intro ⟨rfl, (rfl : List.all _ _ = true)⟩ ?_ | exact ⟨rfl, rfl⟩ | exact jV | fail))
  · obtain ⟨q, rfl⟩ := Int.eq_ofNat_of_zero_le (show 0 ≤ p by omega)
    rw [gU_r]
    repeat' ((conv => whnf); (first | refine k0 ?_ | refine jA fun _ => ?_ | refine jB fun _ => ?_ | refine kC (fun _ => ?_) fun _ => ?_ | refine jS ?_ | refine jI ?_ | refine jD ?_ | refine ⟨snc, _, snr, ?_⟩ | refine ⟨⟨Nat.le_refl _, rfl⟩, [], rfl, ?_⟩ | refine And.intro ⟨rfl, rfl, by decide, rfl⟩ ?_ | refine jP ?_ | refine jO ?_ | refine jX ?_ | refine jb jr ?_ | refine jb ofs ?_ | refine ko jc ?_ | refine ko jp ?_ | refine jM ?_ | refine kr ?_ | refine ko rfl ?_ | refine And.intro (cs_shal _) ?_ | refine And.intro (rfl : List.all _ _ = true) ?_ | refine And.intro ⟨rfl, (rfl : List.all _ _ = true)⟩ ?_ | exact ⟨rfl, rfl⟩ | exact jV | fail))
    conv => whnf
    refine loopk (ι := Nat × Nat) (fun i => i.1 ≤ 3 ∧ i.2 < 128 ^ i.1 ∧ gUr b q i.1 i.2 = gUr b q 0 0) (fun i => 3 - i.1) ((0, 0)) [0, 1] (fun i => [(7, .v false [i6 i.2]), (8, .v false [i6 i.1])]) [none, none] ?_
    refine ⟨⟨by decide, by decide, rfl⟩, ?_, fun ⟨k, n⟩ hi => ?_⟩
    · exact jw []
    · dsimp only at hi ⊢
      obtain ⟨h1, h2, h3⟩ := hi
      rw [← h3]
      by_cases hk : k < 3 ∧ q + k < b.length
      · obtain ⟨hk1, hk2⟩ := hk
        have hx := u8_lt b[q + k]
        obtain ⟨hp1, hp2⟩ := pw (k := k) (by omega)
        have hp3 := pw1 (k := k)
        have hm : b[q + k].toNat % 128 * 2 ^ (7 * k) ≤ 127 * 16384 := Nat.mul_le_mul (by omega) hp1
        have hm2 : b[q + k].toNat % 128 * 2 ^ (7 * k) + 2 ^ (7 * k) ≤ 2 ^ (7 * k) * 128 := by
          rw [← Nat.succ_mul, Nat.mul_comm]; exact Nat.mul_le_mul_left _ (by omega)
        have hst := gUr_step (b := b) (p := q) (n := n) hk1 hk2
        have hen := gUr_end (b := b) (p := q) (n := n) hk1 hk2
        have hba := gUr_bad (b := b) (p := q) (n := n) hk1 hk2
        rw [hp2] at h2
        generalize hw : 2 ^ (7 * k) = w at hp1 hp3 hm hm2 hst hen hba h2
        repeat' ((conv => whnf); (first | refine Exists.intro _ (And.intro (i64_nat (x := q) (y := k) (by omega)) ?_) | refine Exists.intro _ (And.intro (i64_of (n := b[q + k].toNat) (by omega)) ?_) | refine And.intro (by decide) (Exists.intro ((b[q + k].toNat % 128 : Nat) : Int) (And.intro (by rw [Int.tmod_eq_emod_of_nonneg (by omega)]; rfl) ?_)) | refine Exists.intro _ (And.intro (mul7 (by omega)) ?_) | refine And.intro (by omega) (Exists.intro _ (And.intro (shlW hw (by omega) (by omega)) ?_)) | refine Exists.intro _ (And.intro (i64_nat (x := n) (y := b[q + k].toNat % 128 * w) (by omega)) ?_) | refine k0 ?_ | refine jA fun _ => ?_ | refine jB fun _ => ?_ | refine kC (fun _ => ?_) fun _ => ?_ | refine jS ?_ | refine jI ?_ | refine jD ?_ | refine ⟨snc, _, snr, ?_⟩ | refine ⟨⟨Nat.le_refl _, rfl⟩, [], rfl, ?_⟩ | refine And.intro ⟨rfl, rfl, by decide, rfl⟩ ?_ | refine jP ?_ | refine jO ?_ | refine jX ?_ | refine jb jr ?_ | refine jb ofs ?_ | refine ko jc ?_ | refine ko jp ?_ | refine jM ?_ | refine kr ?_ | refine ko rfl ?_ | refine And.intro (cs_shal _) ?_ | refine And.intro (rfl : List.all _ _ = true) ?_ | refine And.intro ⟨rfl, (rfl : List.all _ _ = true)⟩ ?_ | exact ⟨rfl, rfl⟩ | exact jV | fail))
        · refine ⟨⟨(k + 1, n + b[q + k].toNat % 128 * w), by simp only; omega, by simp only; omega, (hst (by omega)).symm⟩, by simp only; omega, ?_⟩
          dsimp only
          exact jw []
        all_goals dsimp only at *
        all_goals first | exact ⟨by rw [hba (by omega) (by omega)]; rfl, rfl⟩ | exact ⟨by rw [hen (by omega) (by omega)]; rfl, rfl⟩
      · rw [gUr_out (by omega)]
        repeat' ((conv => whnf); (first | refine k0 ?_ | refine jA fun _ => ?_ | refine jB fun _ => ?_ | refine kC (fun _ => ?_) fun _ => ?_ | refine jS ?_ | refine jI ?_ | refine jD ?_ | refine ⟨snc, _, snr, ?_⟩ | refine ⟨⟨Nat.le_refl _, rfl⟩, [], rfl, ?_⟩ | refine And.intro ⟨rfl, rfl, by decide, rfl⟩ ?_ | refine jP ?_ | refine jO ?_ | refine jX ?_ | refine jb jr ?_ | refine jb ofs ?_ | refine ko jc ?_ | refine ko jp ?_ | refine jM ?_ | refine kr ?_ | refine ko rfl ?_ | refine And.intro (cs_shal _) ?_ | refine And.intro (rfl : List.all _ _ = true) ?_ | refine And.intro ⟨rfl, (rfl : List.all _ _ = true)⟩ ?_ | exact ⟨rfl, rfl⟩ | exact jV | fail))

theorem cx22 {P : Program} {X : FuncId → List Arg → List (Bool × List Cell) → List (Option (List Cell)) → Prop} {a : List Arg} {Q : List (Bool × List Cell) → List (Option (List Cell)) → Prop} (h : ∃ b vals outs, a = b ∧ D P X (.call 22 b vals outs) ∧ Q vals outs) : CallS P X 22 a Q := ⟨h⟩

set_option maxHeartbeats 2000000 in
set_option maxRecDepth 100000 in
theorem tx45 {b : List UInt8} {p : Int} (hb : b.length ≤ 1000000000000000 := by first | assumption | omega | (simp; done) | (simp; omega)) (hpb : p ≤ 9000000000000000000 := by first | assumption | omega | (simp; done) | (simp; omega)) : T 45 [aE b, aI p] [vI (gU b p).1, vI (gU b p).2.1, vB (gU b p).2.2] [none, none] := by
  refine w_call md [] Try.func45 rfl ?_
  by_cases hp : p < 0
  · rw [gU_neg hp]
    repeat' ((conv => whnf); (first | refine k0 ?_ | refine jA fun _ => ?_ | refine jB fun _ => ?_ | refine kC (fun _ => ?_) fun _ => ?_ | refine jS ?_ | refine jI ?_ | refine jD ?_ | refine ⟨snc, _, snr, ?_⟩ | refine ⟨⟨Nat.le_refl _, rfl⟩, [], rfl, ?_⟩ | refine And.intro ⟨rfl, rfl, by decide, rfl⟩ ?_ | refine jP ?_ | refine jO ?_ | refine jX ?_ | refine jb jr ?_ | refine jb ofs ?_ | refine ko jc ?_ | refine ko jp ?_ | refine jM ?_ | refine kr ?_ | refine ko rfl ?_ | refine And.intro (cs_shal _) ?_ | refine And.intro (rfl : List.all _ _ = true) ?_ | refine And.intro ⟨rfl, (rfl : List.all _ _ = true)⟩ ?_ | exact ⟨rfl, rfl⟩ | exact jV | fail))
    conv => whnf
    refine loopk (ι := Nat) (fun i => i = 0) (fun i => 0) (0) [0, 1] (fun i => [(7, .v false [i6 0]), (8, .v false [i6 0])]) [none, none] ?_
    refine ⟨rfl, ?_, fun i hi => ?_⟩
    · exact jw []
    · repeat' ((conv => whnf); (first | refine k0 ?_ | refine jA fun _ => ?_ | refine jB fun _ => ?_ | refine kC (fun _ => ?_) fun _ => ?_ | refine jS ?_ | refine jI ?_ | refine jD ?_ | refine ⟨snc, _, snr, ?_⟩ | refine ⟨⟨Nat.le_refl _, rfl⟩, [], rfl, ?_⟩ | refine And.intro ⟨rfl, rfl, by decide, rfl⟩ ?_ | refine jP ?_ | refine jO ?_ | refine jX ?_ | refine jb jr ?_ | refine jb ofs ?_ | refine ko jc ?_ | refine ko jp ?_ | refine jM ?_ | refine kr ?_ | refine ko rfl ?_ | refine And.intro (cs_shal _) ?_ | refine And.intro (rfl : List.all _ _ = true) ?_ | refine And.intro ⟨rfl, (rfl : List.all _ _ = true)⟩ ?_ | exact ⟨rfl, rfl⟩ | exact jV | fail))
  · obtain ⟨q, rfl⟩ := Int.eq_ofNat_of_zero_le (show 0 ≤ p by omega)
    rw [gU_r]
    repeat' ((conv => whnf); (first | refine k0 ?_ | refine jA fun _ => ?_ | refine jB fun _ => ?_ | refine kC (fun _ => ?_) fun _ => ?_ | refine jS ?_ | refine jI ?_ | refine jD ?_ | refine ⟨snc, _, snr, ?_⟩ | refine ⟨⟨Nat.le_refl _, rfl⟩, [], rfl, ?_⟩ | refine And.intro ⟨rfl, rfl, by decide, rfl⟩ ?_ | refine jP ?_ | refine jO ?_ | refine jX ?_ | refine jb jr ?_ | refine jb ofs ?_ | refine ko jc ?_ | refine ko jp ?_ | refine jM ?_ | refine kr ?_ | refine ko rfl ?_ | refine And.intro (cs_shal _) ?_ | refine And.intro (rfl : List.all _ _ = true) ?_ | refine And.intro ⟨rfl, (rfl : List.all _ _ = true)⟩ ?_ | exact ⟨rfl, rfl⟩ | exact jV | fail))
    conv => whnf
    refine loopk (ι := Nat × Nat) (fun i => i.1 ≤ 3 ∧ i.2 < 128 ^ i.1 ∧ gUr b q i.1 i.2 = gUr b q 0 0) (fun i => 3 - i.1) ((0, 0)) [0, 1] (fun i => [(7, .v false [i6 i.2]), (8, .v false [i6 i.1])]) [none, none] ?_
    refine ⟨⟨by decide, by decide, rfl⟩, ?_, fun ⟨k, n⟩ hi => ?_⟩
    · exact jw []
    · dsimp only at hi ⊢
      obtain ⟨h1, h2, h3⟩ := hi
      rw [← h3]
      by_cases hk : k < 3 ∧ q + k < b.length
      · obtain ⟨hk1, hk2⟩ := hk
        have hx := u8_lt b[q + k]
        obtain ⟨hp1, hp2⟩ := pw (k := k) (by omega)
        have hp3 := pw1 (k := k)
        have hm : b[q + k].toNat % 128 * 2 ^ (7 * k) ≤ 127 * 16384 := Nat.mul_le_mul (by omega) hp1
        have hm2 : b[q + k].toNat % 128 * 2 ^ (7 * k) + 2 ^ (7 * k) ≤ 2 ^ (7 * k) * 128 := by
          rw [← Nat.succ_mul, Nat.mul_comm]; exact Nat.mul_le_mul_left _ (by omega)
        have hst := gUr_step (b := b) (p := q) (n := n) hk1 hk2
        have hen := gUr_end (b := b) (p := q) (n := n) hk1 hk2
        have hba := gUr_bad (b := b) (p := q) (n := n) hk1 hk2
        rw [hp2] at h2
        generalize hw : 2 ^ (7 * k) = w at hp1 hp3 hm hm2 hst hen hba h2
        repeat' ((conv => whnf); (first | refine Exists.intro _ (And.intro (i64_nat (x := q) (y := k) (by omega)) ?_) | refine Exists.intro _ (And.intro (i64_of (n := b[q + k].toNat) (by omega)) ?_) | refine Exists.intro _ (And.intro (and127 (m := b[q + k].toNat) (by omega)) ?_) | refine Exists.intro _ (And.intro (u64_of (n := 7 * k) (by omega)) ?_) | refine Exists.intro _ (And.intro (mul7 (by omega)) ?_) | refine And.intro (by omega) (Exists.intro _ (And.intro (shlW hw (by omega) (by omega)) ?_)) | refine Exists.intro _ (And.intro (orW hw (by omega) (by omega) h2) ?_) | refine k0 ?_ | refine jA fun _ => ?_ | refine jB fun _ => ?_ | refine kC (fun _ => ?_) fun _ => ?_ | refine jS ?_ | refine jI ?_ | refine jD ?_ | refine ⟨snc, _, snr, ?_⟩ | refine ⟨⟨Nat.le_refl _, rfl⟩, [], rfl, ?_⟩ | refine And.intro ⟨rfl, rfl, by decide, rfl⟩ ?_ | refine jP ?_ | refine jO ?_ | refine jX ?_ | refine jb jr ?_ | refine jb ofs ?_ | refine ko jc ?_ | refine ko jp ?_ | refine jM ?_ | refine kr ?_ | refine ko rfl ?_ | refine And.intro (cs_shal _) ?_ | refine And.intro (rfl : List.all _ _ = true) ?_ | refine And.intro ⟨rfl, (rfl : List.all _ _ = true)⟩ ?_ | exact ⟨rfl, rfl⟩ | exact jV | fail))
        · refine ⟨⟨(k + 1, n + b[q + k].toNat % 128 * w), by simp only; omega, by simp only; omega, (hst (by omega)).symm⟩, by simp only; omega, ?_⟩
          dsimp only
          exact jw []
        all_goals dsimp only at *
        all_goals first | exact ⟨by rw [hba (by omega) (by omega)]; rfl, rfl⟩ | exact ⟨by rw [hen (by omega) (by omega)]; rfl, rfl⟩
      · rw [gUr_out (by omega)]
        repeat' ((conv => whnf); (first | refine k0 ?_ | refine jA fun _ => ?_ | refine jB fun _ => ?_ | refine kC (fun _ => ?_) fun _ => ?_ | refine jS ?_ | refine jI ?_ | refine jD ?_ | refine ⟨snc, _, snr, ?_⟩ | refine ⟨⟨Nat.le_refl _, rfl⟩, [], rfl, ?_⟩ | refine And.intro ⟨rfl, rfl, by decide, rfl⟩ ?_ | refine jP ?_ | refine jO ?_ | refine jX ?_ | refine jb jr ?_ | refine jb ofs ?_ | refine ko jc ?_ | refine ko jp ?_ | refine jM ?_ | refine kr ?_ | refine ko rfl ?_ | refine And.intro (cs_shal _) ?_ | refine And.intro (rfl : List.all _ _ = true) ?_ | refine And.intro ⟨rfl, (rfl : List.all _ _ = true)⟩ ?_ | exact ⟨rfl, rfl⟩ | exact jV | fail))

theorem cx45 {P : Program} {X : FuncId → List Arg → List (Bool × List Cell) → List (Option (List Cell)) → Prop} {a : List Arg} {Q : List (Bool × List Cell) → List (Option (List Cell)) → Prop} (h : ∃ b vals outs, a = b ∧ D P X (.call 45 b vals outs) ∧ Q vals outs) : CallS P X 45 a Q := ⟨h⟩

set_option maxRecDepth 100000 in
theorem tx37 {b : List UInt8} {p : Int} (hb : b.length ≤ 1000000000000000 := by first | assumption | omega | (simp; done) | (simp; omega)) (hpb : p ≤ 9000000000000000000 := by first | assumption | omega | (simp; done) | (simp; omega)) : T 37 [aE b, aI p] [vS (sb (gT b p).1), vI (gT b p).2.1, vB (gT b p).2.2] [none, none] := by
  refine w_call md [] Try.func37 rfl ?_
  obtain ⟨h1, h2⟩ := gU_small b p
  repeat' ((conv => whnf); (first | refine Exists.intro _ (And.intro (i64_nat (by omega)) ?_) | refine Exists.intro _ (Exists.intro _ (Exists.intro _ (And.intro bndN (And.intro bndN (And.intro (sl_ro (by omega)) ?_))))) | refine Exists.intro _ (Exists.intro _ (Exists.intro _ (And.intro rfl (And.intro strOf_ro ?_)))) | refine k0 ?_ | refine jA fun _ => ?_ | refine jB fun _ => ?_ | refine kC (fun _ => ?_) fun _ => ?_ | refine jS ?_ | refine jI ?_ | (apply cx22; refine kl tx22 ?_) | refine jD ?_ | refine ⟨snc, _, snr, ?_⟩ | refine ⟨⟨Nat.le_refl _, rfl⟩, [], rfl, ?_⟩ | refine And.intro ⟨rfl, rfl, by decide, rfl⟩ ?_ | refine jP ?_ | refine jO ?_ | refine jX ?_ | refine jb jr ?_ | refine jb ofs ?_ | refine ko jc ?_ | refine ko jp ?_ | refine jM ?_ | refine kr ?_ | refine ko rfl ?_ | refine And.intro (cs_shal _) ?_ | refine And.intro (rfl : List.all _ _ = true) ?_ | refine And.intro ⟨rfl, (rfl : List.all _ _ = true)⟩ ?_ | exact ⟨rfl, rfl⟩ | exact jV | fail))
  · exact ⟨by rw [gT_no (by omega)]; rfl, rfl⟩
  · exact ⟨by rw [gT_yes ‹_› (by omega)], rfl⟩
  · exact ⟨by rw [gT_no (by simp [*])]; rfl, rfl⟩

theorem cx37 {P : Program} {X : FuncId → List Arg → List (Bool × List Cell) → List (Option (List Cell)) → Prop} {a : List Arg} {Q : List (Bool × List Cell) → List (Option (List Cell)) → Prop} (h : ∃ b vals outs, a = b ∧ D P X (.call 37 b vals outs) ∧ Q vals outs) : CallS P X 37 a Q := ⟨h⟩

set_option maxRecDepth 100000 in
theorem tx59 {b : List UInt8} {p : Int} (hb : b.length ≤ 1000000000000000 := by first | assumption | omega | (simp; done) | (simp; omega)) (hpb : p ≤ 9000000000000000000 := by first | assumption | omega | (simp; done) | (simp; omega)) : T 59 [aE b, aI p] [vS (sb (gT b p).1), vI (gT b p).2.1, vB (gT b p).2.2] [none, none] := by
  refine w_call md [] Try.func59 rfl ?_
  obtain ⟨h1, h2⟩ := gU_small b p
  repeat' ((conv => whnf); (first | refine Exists.intro _ (And.intro (i64_nat (by omega)) ?_) | refine Exists.intro _ (Exists.intro _ (Exists.intro _ (And.intro bndN (And.intro bndN (And.intro (sl_ro (by omega)) ?_))))) | refine Exists.intro _ (Exists.intro _ (Exists.intro _ (And.intro rfl (And.intro strOf_ro ?_)))) | refine k0 ?_ | refine jA fun _ => ?_ | refine jB fun _ => ?_ | refine kC (fun _ => ?_) fun _ => ?_ | refine jS ?_ | refine jI ?_ | (apply cx45; refine kl tx45 ?_) | refine jD ?_ | refine ⟨snc, _, snr, ?_⟩ | refine ⟨⟨Nat.le_refl _, rfl⟩, [], rfl, ?_⟩ | refine And.intro ⟨rfl, rfl, by decide, rfl⟩ ?_ | refine jP ?_ | refine jO ?_ | refine jX ?_ | refine jb jr ?_ | refine jb ofs ?_ | refine ko jc ?_ | refine ko jp ?_ | refine jM ?_ | refine kr ?_ | refine ko rfl ?_ | refine And.intro (cs_shal _) ?_ | refine And.intro (rfl : List.all _ _ = true) ?_ | refine And.intro ⟨rfl, (rfl : List.all _ _ = true)⟩ ?_ | exact ⟨rfl, rfl⟩ | exact jV | fail))
  · exact ⟨by rw [gT_no (by omega)]; rfl, rfl⟩
  · exact ⟨by rw [gT_yes ‹_› (by omega)], rfl⟩
  · exact ⟨by rw [gT_no (by simp [*])]; rfl, rfl⟩

theorem cx59 {P : Program} {X : FuncId → List Arg → List (Bool × List Cell) → List (Option (List Cell)) → Prop} {a : List Arg} {Q : List (Bool × List Cell) → List (Option (List Cell)) → Prop} (h : ∃ b vals outs, a = b ∧ D P X (.call 59 b vals outs) ∧ Q vals outs) : CallS P X 59 a Q := ⟨h⟩

end Go.Proofs.Ytmphoefccibibaa
