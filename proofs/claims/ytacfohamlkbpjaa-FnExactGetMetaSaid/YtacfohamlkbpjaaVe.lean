/- Bytes read back. -/
import Derived.Test.YtacfohamlkbpjaaVd
namespace Go.Proofs.Ytacfohamlkbpjaa
open Go Go.RowKit Go.IntWalk
open Enc (sz cs)

/-- A number, read byte by byte: which, and how many bytes it has. -/
def dU (k n : Nat) : Nat → List UInt8 → Nat × Nat × Bool
  | 0, _ => (0, 0, false)
  | _ + 1, [] => (0, 0, false)
  | f + 1, x :: r => if 128 ≤ x.toNat then dU (k + 1) (n + x.toNat % 128 * 2 ^ (7 * k)) f r
    else if (x.toNat = 0 ∧ 0 < k) ∨ 1000000 < n + x.toNat % 128 * 2 ^ (7 * k) then (0, 0, false) else (n + x.toNat % 128 * 2 ^ (7 * k), k + 1, true)

theorem u8_of {x : UInt8} {n : Nat} (h : n = x.toNat) : UInt8.ofNat n = x := by subst h; simp

theorem dU_inv {l : List UInt8} {n c : Nat} (h : dU 0 0 3 l = (n, c, true)) : n ≤ 1000000 ∧ ∃ r, l = uenc n ++ r ∧ c = (uenc n).length := by
  match l with
  | [] => simp [dU] at h
  | x :: l1 =>
    have hx := u8_lt x
    rw [dU] at h
    split at h
    · rename_i hx1
      match l1 with
      | [] => simp [dU] at h
      | y :: l2 =>
        have hy := u8_lt y
        rw [dU] at h
        split at h
        · rename_i hy1
          match l2 with
          | [] => simp [dU] at h
          | z :: l3 =>
            have hz := u8_lt z
            rw [dU] at h
            split at h
            · simp [dU] at h
            · rename_i hz1
              split at h
              · simp at h
              · rename_i hc
                simp only [Prod.mk.injEq, and_true, Nat.reduceMul, Nat.reducePow, Nat.reduceAdd, Nat.mul_zero, Nat.pow_zero, Nat.mul_one, Nat.zero_add] at h hc
                obtain ⟨rfl, rfl⟩ := h
                refine ⟨by omega, l3, ?_⟩
                rw [uenc_big (by omega), uenc_big (by omega), uenc_small (by omega), u8_of (x := x) (by omega), u8_of (x := y) (by omega), u8_of (x := z) (by omega)]
                exact ⟨rfl, rfl⟩
        · rename_i hy1
          split at h
          · simp at h
          · rename_i hc
            simp only [Prod.mk.injEq, and_true, Nat.reduceMul, Nat.reducePow, Nat.reduceAdd, Nat.mul_zero, Nat.pow_zero, Nat.mul_one, Nat.zero_add] at h hc
            obtain ⟨rfl, rfl⟩ := h
            refine ⟨by omega, l2, ?_⟩
            rw [uenc_big (by omega), uenc_small (by omega), u8_of (x := x) (by omega), u8_of (x := y) (by omega)]
            exact ⟨rfl, rfl⟩
    · rename_i hx1
      split at h
      · simp at h
      · rename_i hc
        simp only [Prod.mk.injEq, and_true, Nat.reduceMul, Nat.reducePow, Nat.reduceAdd, Nat.mul_zero, Nat.pow_zero, Nat.mul_one, Nat.zero_add] at h hc
        obtain ⟨rfl, rfl⟩ := h
        refine ⟨by omega, l1, ?_⟩
        rw [uenc_small (by omega), u8_of (x := x) (by omega)]
        exact ⟨rfl, rfl⟩

theorem dU_enc {n : Nat} (h : n ≤ 1000000) (r : List UInt8) : dU 0 0 3 (uenc n ++ r) = (n, (uenc n).length, true) := by
  by_cases h1 : n ≤ 127
  · rw [uenc_small h1, List.singleton_append, dU, if_neg (by simp; omega), if_neg (by simp; omega)]
    simp; omega
  · rw [uenc_big h1, List.cons_append, dU, if_pos (by simp; omega)]
    by_cases h2 : n / 128 ≤ 127
    · rw [uenc_small h2, List.singleton_append, dU, if_neg (by simp; omega), if_neg (by simp; omega)]
      simp; omega
    · rw [uenc_big h2, List.cons_append, dU, if_pos (by simp; omega)]
      rw [uenc_small (by omega), List.singleton_append, dU, if_neg (by simp; omega), if_neg (by simp; omega)]
      simp; omega

/-- A number at a place: which, and where it ends. -/
def gU (b : List UInt8) (p : Int) : Nat × Nat × Bool :=
  if 0 ≤ p then match dU 0 0 3 (b.drop p.toNat) with
    | (n, c, true) => (n, p.toNat + c, true)
    | _ => (0, 0, false)
  else (0, 0, false)
/-- A text at a place. -/
def gT (b : List UInt8) (p : Int) : List UInt8 × Nat × Bool :=
  match gU b p with
  | (n, q, true) => if n ≤ b.length - q then ((b.drop q).take n, q + n, true) else ([], 0, false)
  | _ => ([], 0, false)
def gS (b : List UInt8) : List UInt8 × Bool := if 4 ≤ b.length ∧ ptS (b.take (b.length - 4)) = b then (b.take (b.length - 4), true) else ([], false)

theorem gU_bad {b : List UInt8} {p : Int} (h : (gU b p).2.2 = false) : gU b p = (0, 0, false) := by
  by_cases h1 : 0 ≤ p
  · unfold gU at *
    rw [if_pos h1] at *
    revert h
    split
    · intro h; simp at h
    · intro _; rfl
  · unfold gU; rw [if_neg h1]
theorem gU_ok {b : List UInt8} {p : Int} (h : (gU b p).2.2 = true) : 0 ≤ p ∧ (gU b p).1 ≤ 1000000 ∧ ∃ r, b.drop p.toNat = uenc (gU b p).1 ++ r ∧ (gU b p).2.1 = p.toNat + (uenc (gU b p).1).length := by
  unfold gU at *
  split at h
  · rename_i h1
    split at h
    · rename_i n c e
      obtain ⟨h2, r, h3, h4⟩ := dU_inv e
      simp only [if_pos h1, e]
      exact ⟨h1, h2, r, h3, by omega⟩
    · simp at h
  · simp at h
theorem gU_le {b : List UInt8} {p : Int} (h : (gU b p).2.2 = true) : (gU b p).2.1 ≤ b.length ∧ p.toNat < (gU b p).2.1 := by
  obtain ⟨h1, h2, r, h3, h4⟩ := gU_ok h
  have h5 := congrArg List.length h3
  have := uenc_pos (gU b p).1
  simp at h5
  omega
theorem gU_small (b : List UInt8) (p : Int) : (gU b p).1 ≤ 1000000 ∧ (gU b p).2.1 ≤ b.length := by
  cases h : (gU b p).2.2 with
  | true => exact ⟨(gU_ok h).2.1, (gU_le h).1⟩
  | false => rw [gU_bad h]; simp
theorem gU_enc {a r : List UInt8} {n : Nat} (h : n ≤ 1000000) {p : Int} (hp : p = a.length) : gU (a ++ uenc n ++ r) p = (n, a.length + (uenc n).length, true) := by
  subst hp
  unfold gU
  rw [if_pos (by omega), Int.toNat_natCast, List.append_assoc, List.drop_left, dU_enc h]
theorem gT_bad {b : List UInt8} {p : Int} (h : (gT b p).2.2 = false) : gT b p = ([], 0, false) := by
  unfold gT at *
  split at h
  · rename_i n q e
    split at h
    · simp at h
    · rename_i h1; simp only [if_neg h1]
  · rfl
theorem gT_ok {b : List UInt8} {p : Int} (h : (gT b p).2.2 = true) : (gU b p).2.2 = true ∧ (gU b p).1 ≤ b.length - (gU b p).2.1 ∧ gT b p = ((b.drop (gU b p).2.1).take (gU b p).1, (gU b p).2.1 + (gU b p).1, true) := by
  unfold gT at *
  split at h
  · rename_i n q e
    rw [e]
    split at h
    · rename_i h1; exact ⟨rfl, h1, by simp only [if_pos h1]⟩
    · simp at h
  · simp at h
theorem gS_bad {b : List UInt8} (h : (gS b).2 = false) : gS b = ([], false) := by
  unfold gS at *
  split at h
  · simp at h
  · rename_i h1; rw [if_neg h1]
theorem gS_ok {b : List UInt8} (h : (gS b).2 = true) : 4 ≤ b.length ∧ gS b = (b.take (b.length - 4), true) ∧ ptS (gS b).1 = b := by
  unfold gS at *
  split at h
  · rename_i h1; rw [if_pos h1]; exact ⟨h1.1, rfl, h1.2⟩
  · simp at h

/-- The last four bytes as a number. -/
def rd4 (l : List UInt8) : Nat := l.foldl (fun a x => a * 256 + x.toNat) 0
theorem be4_len (n : Nat) : (be4 n).length = 4 := rfl
theorem ptS_len (b : List UInt8) : (ptS b).length = b.length + 4 := by simp [ptS, be4_len]
theorem ptS_inj {a b : List UInt8} (h : ptS a = ptS b) : a = b := by
  have h1 := congrArg List.length h
  rw [ptS_len, ptS_len] at h1
  have h2 := congrArg (List.take a.length) h
  unfold ptS at h2
  rw [List.take_left' rfl, List.take_left' (by omega)] at h2
  exact h2
theorem rd4_be4 {n : Nat} (h : n < 4294967296) : rd4 (be4 n) = n := by
  simp [rd4, be4]; omega
theorem be4_rd4 : ∀ {l : List UInt8}, l.length = 4 → be4 (rd4 l) = l ∧ rd4 l < 4294967296
  | [a, b, c, d], _ => by
    have := u8_lt a; have := u8_lt b; have := u8_lt c; have := u8_lt d
    have e : rd4 [a, b, c, d] = ((a.toNat * 256 + b.toNat) * 256 + c.toNat) * 256 + d.toNat := by simp [rd4]
    refine ⟨?_, by omega⟩
    unfold be4
    rw [e]
    have e4 : UInt8.ofNat (((a.toNat * 256 + b.toNat) * 256 + c.toNat) * 256 + d.toNat) = d := by
      apply UInt8.toNat_inj.1
      rw [UInt8.toNat_ofNat']; omega
    have e3 : UInt8.ofNat ((((a.toNat * 256 + b.toNat) * 256 + c.toNat) * 256 + d.toNat) / 256) = c := by
      apply UInt8.toNat_inj.1
      rw [UInt8.toNat_ofNat']; omega
    have e2 : UInt8.ofNat ((((a.toNat * 256 + b.toNat) * 256 + c.toNat) * 256 + d.toNat) / 65536) = b := by
      apply UInt8.toNat_inj.1
      rw [UInt8.toNat_ofNat']; omega
    rw [e4, e3, e2, u8_of (x := a) (by omega)]
/-- The sum is right: as the two say it. -/
theorem gS_iff {b : List UInt8} (h : 4 ≤ b.length) : ptS (b.take (b.length - 4)) = b ↔ rd4 (b.drop (b.length - 4)) = crcN (b.take (b.length - 4)) := by
  obtain ⟨e1, e2⟩ := be4_rd4 (l := b.drop (b.length - 4)) (by simp; omega)
  constructor
  · intro h1
    have h2 : b.drop (b.length - 4) = be4 (crcN (b.take (b.length - 4))) := by
      conv => lhs; rw [← h1]
      unfold ptS
      rw [List.drop_left' (by simp [be4_len])]
    rw [h2, rd4_be4 (crcN_lt _)]
  · intro h1
    unfold ptS
    rw [← h1, e1, List.take_append_drop]

end Go.Proofs.Ytacfohamlkbpjaa
