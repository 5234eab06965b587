/- Bytes: numbers, texts, sums. -/
import Derived.Test.YtacfohamlkbpjaaVb
namespace Go.Proofs.Ytacfohamlkbpjaa
open Go Go.RowKit Go.IntWalk
open Enc (sz cs)

def clampI (n : Int) : Int := max 0 (min n 1000000)
/-- A number as it is written. -/
def clN (n : Int) : Nat := (clampI n).toNat
theorem clN_le (n : Int) : clN n ≤ 1000000 := by unfold clN clampI; omega
theorem clN_nat {n : Nat} (h : n ≤ 1000000) : clN n = n := by unfold clN clampI; omega
theorem clN_int {n : Int} (h : 0 ≤ n ∧ n ≤ 1000000) : ((clN n : Nat) : Int) = n := by unfold clN clampI; omega
theorem cl_eq (n : Int) : clampI n = (clN n : Int) := by unfold clN clampI; omega

def uenc (n : Nat) : List UInt8 := if n ≤ 127 then [UInt8.ofNat n] else UInt8.ofNat (n % 128 + 128) :: uenc (n / 128)
theorem uenc_small {n : Nat} (h : n ≤ 127) : uenc n = [UInt8.ofNat n] := by rw [uenc, if_pos h]
theorem uenc_big {n : Nat} (h : ¬ n ≤ 127) : uenc n = UInt8.ofNat (n % 128 + 128) :: uenc (n / 128) := by rw [uenc, if_neg h]
theorem uenc_len {n : Nat} (h : n ≤ 1000000) : (uenc n).length ≤ 3 := by
  rw [uenc]
  split
  · simp
  · rw [uenc]
    split
    · simp
    · rw [uenc, if_pos (by omega)]; simp
theorem uenc_pos (n : Nat) : 0 < (uenc n).length := by
  rw [uenc]; split <;> simp
/-- A number behind bytes. -/
abbrev ptU (b : List UInt8) (n : Int) : List UInt8 := b ++ uenc (clN n)
/-- A text behind bytes. -/
abbrev ptT (b s : List UInt8) : List UInt8 := b ++ uenc (clN s.length) ++ s

/-! ### The sum -/
def stepN (x : Nat) : Nat := if x % 2 = 1 then (x / 2) ^^^ 2197175160 else x / 2
def stepsN : Nat → Nat → Nat
  | 0, x => x
  | k + 1, x => stepN (stepsN k x)
def roundN (x : Nat) (b : UInt8) : Nat := stepsN 8 (x ^^^ b.toNat)
def crcX (bs : List UInt8) : Nat := bs.foldl roundN 4294967295
def crcN (bs : List UInt8) : Nat := crcX bs ^^^ 4294967295

theorem xor_lt32 {a b : Nat} (ha : a < 4294967296) (hb : b < 4294967296) : a ^^^ b < 4294967296 := Nat.xor_lt_two_pow (n := 32) ha hb
theorem stepN_lt {x : Nat} (h : x < 4294967296) : stepN x < 4294967296 := by
  unfold stepN
  split
  · exact xor_lt32 (by omega) (by omega)
  · omega
theorem stepsN_lt {x : Nat} (h : x < 4294967296) : ∀ k, stepsN k x < 4294967296
  | 0 => h
  | k + 1 => stepN_lt (stepsN_lt h k)
theorem u8_lt (b : UInt8) : b.toNat < 256 := b.toNat_lt
theorem roundN_lt {x : Nat} (h : x < 4294967296) (b : UInt8) : roundN x b < 4294967296 := stepsN_lt (xor_lt32 h (by have := u8_lt b; omega)) 8
theorem foldl_lt : ∀ (bs : List UInt8) {x : Nat}, x < 4294967296 → bs.foldl roundN x < 4294967296
  | [], _, h => h
  | b :: bs, _, h => foldl_lt bs (roundN_lt h b)
theorem crcX_lt (bs : List UInt8) : crcX bs < 4294967296 := foldl_lt bs (by omega)
theorem crcN_lt (bs : List UInt8) : crcN bs < 4294967296 := xor_lt32 (crcX_lt bs) (by omega)
theorem crcX_take (bs : List UInt8) {i : Nat} (h : i < bs.length) : crcX (bs.take (i + 1)) = roundN (crcX (bs.take i)) bs[i] := by
  unfold crcX
  rw [List.take_succ_eq_append_getElem h, List.foldl_append]
  rfl
def be4 (n : Nat) : List UInt8 := [UInt8.ofNat (n / 16777216), UInt8.ofNat (n / 65536), UInt8.ofNat (n / 256), UInt8.ofNat n]
/-- Bytes with their sum behind them. -/
def ptS (b : List UInt8) : List UInt8 := b ++ be4 (crcN b)

/-! ### Bits -/
theorem ofInt_nat (m : Nat) : BitVec.ofInt 64 (m : Int) = BitVec.ofNat 64 m := by simp
theorem ofInt_nat32 (m : Nat) : BitVec.ofInt 32 (m : Int) = BitVec.ofNat 32 m := by simp
theorem and64 {m : Nat} (k : Nat) (hk : k ≤ 63) (h : m < 9223372036854775808) : IntKind.i64.wrap ((BitVec.ofInt IntKind.i64.bits (m : Int) &&& BitVec.ofInt IntKind.i64.bits ((2 ^ k - 1 : Nat) : Int)).toNat : Int) = ((m % 2 ^ k : Nat) : Int) := by
  have h2 : 2 ^ k ≤ 2 ^ 63 := Nat.pow_le_pow_right (by decide) hk
  have h3 : 0 < 2 ^ k := Nat.two_pow_pos k
  have e : (BitVec.ofInt IntKind.i64.bits (m : Int) &&& BitVec.ofInt IntKind.i64.bits ((2 ^ k - 1 : Nat) : Int)).toNat = m % 2 ^ k := by
    show (BitVec.ofInt 64 (m : Int) &&& BitVec.ofInt 64 ((2 ^ k - 1 : Nat) : Int)).toNat = m % 2 ^ k
    rw [ofInt_nat, ofInt_nat, BitVec.toNat_and, BitVec.toNat_ofNat, BitVec.toNat_ofNat, Nat.mod_eq_of_lt (by omega), Nat.mod_eq_of_lt (show 2 ^ k - 1 < 2 ^ 64 by omega)]
    exact Nat.and_two_pow_sub_one_eq_mod m k
  have : m % 2 ^ k ≤ m := Nat.mod_le _ _
  rw [e]; exact i64_in _ (by omega)
theorem and127 {m : Nat} (h : m < 9223372036854775808) : IntKind.i64.wrap ((BitVec.ofInt IntKind.i64.bits (m : Int) &&& BitVec.ofInt IntKind.i64.bits 127).toNat : Int) = ((m % 128 : Nat) : Int) := and64 7 (by decide) h
theorem and1 {m : Nat} (h : m < 9223372036854775808) : IntKind.i64.wrap ((BitVec.ofInt IntKind.i64.bits (m : Int) &&& BitVec.ofInt IntKind.i64.bits 1).toNat : Int) = ((m % 2 : Nat) : Int) := and64 1 (by decide) h
theorem or128 {m : Nat} (h : m < 128) : IntKind.i64.wrap ((BitVec.ofInt IntKind.i64.bits (m : Int) ||| BitVec.ofInt IntKind.i64.bits 128).toNat : Int) = ((m + 128 : Nat) : Int) := by
  have e : (BitVec.ofInt IntKind.i64.bits (m : Int) ||| BitVec.ofInt IntKind.i64.bits 128).toNat = m + 128 := by
    show (BitVec.ofInt 64 (m : Int) ||| BitVec.ofInt 64 ((128 : Nat) : Int)).toNat = m + 128
    rw [ofInt_nat, ofInt_nat, BitVec.toNat_or, BitVec.toNat_ofNat, BitVec.toNat_ofNat, Nat.mod_eq_of_lt (by omega)]
    have := Nat.two_pow_add_eq_or_of_lt (i := 7) (b := m) (by omega) 1
    rw [Nat.or_comm]
    simp at this ⊢; omega
  rw [e]; exact i64_in _ (by omega)
theorem xor64 {a b : Nat} (ha : a < 4294967296) (hb : b < 4294967296) : IntKind.i64.wrap ((BitVec.ofInt IntKind.i64.bits (a : Int) ^^^ BitVec.ofInt IntKind.i64.bits (b : Int)).toNat : Int) = ((a ^^^ b : Nat) : Int) := by
  have e : (BitVec.ofInt IntKind.i64.bits (a : Int) ^^^ BitVec.ofInt IntKind.i64.bits (b : Int)).toNat = a ^^^ b := by
    show (BitVec.ofInt 64 (a : Int) ^^^ BitVec.ofInt 64 (b : Int)).toNat = a ^^^ b
    rw [ofInt_nat, ofInt_nat, BitVec.toNat_xor, BitVec.toNat_ofNat, BitVec.toNat_ofNat, Nat.mod_eq_of_lt (by omega), Nat.mod_eq_of_lt (by omega)]
  have := xor_lt32 ha hb
  rw [e]; exact i64_in _ (by omega)
theorem u32_in {n : Nat} (h : n < 4294967296) : IntKind.u32.wrap (n : Int) = n := by rw [IntKind.wrap_u32]; omega
theorem xor32 {a b : Nat} (ha : a < 4294967296) (hb : b < 4294967296) : IntKind.u32.wrap ((BitVec.ofInt IntKind.u32.bits (a : Int) ^^^ BitVec.ofInt IntKind.u32.bits (b : Int)).toNat : Int) = ((a ^^^ b : Nat) : Int) := by
  have e : (BitVec.ofInt IntKind.u32.bits (a : Int) ^^^ BitVec.ofInt IntKind.u32.bits (b : Int)).toNat = a ^^^ b := by
    show (BitVec.ofInt 32 (a : Int) ^^^ BitVec.ofInt 32 (b : Int)).toNat = a ^^^ b
    rw [ofInt_nat32, ofInt_nat32, BitVec.toNat_xor, BitVec.toNat_ofNat, BitVec.toNat_ofNat, Nat.mod_eq_of_lt (by omega), Nat.mod_eq_of_lt (by omega)]
  rw [e]; exact u32_in (xor_lt32 ha hb)
theorem and32_1 {a : Nat} (ha : a < 4294967296) : IntKind.u32.wrap ((BitVec.ofInt IntKind.u32.bits (a : Int) &&& BitVec.ofInt IntKind.u32.bits 1).toNat : Int) = ((a % 2 : Nat) : Int) := by
  have e : (BitVec.ofInt IntKind.u32.bits (a : Int) &&& BitVec.ofInt IntKind.u32.bits 1).toNat = a % 2 := by
    show (BitVec.ofInt 32 (a : Int) &&& BitVec.ofInt 32 ((1 : Nat) : Int)).toNat = a % 2
    rw [ofInt_nat32, ofInt_nat32, BitVec.toNat_and, BitVec.toNat_ofNat, BitVec.toNat_ofNat, Nat.mod_eq_of_lt (by omega)]
    exact Nat.and_two_pow_sub_one_eq_mod a 1
  rw [e]; exact u32_in (by omega)
theorem shrN (a k : Nat) : (a : Int).fdiv (2 ^ k) = ((a / 2 ^ k : Nat) : Int) := by
  rw [Int.fdiv_eq_ediv_of_nonneg _ (by exact_mod_cast (Nat.zero_le (2 ^ k)))]
  exact_mod_cast rfl
theorem shr1 (a : Nat) : (a : Int).fdiv (2 ^ 1) = ((a / 2 : Nat) : Int) := shrN a 1
theorem i64_of {n : Nat} (h : n ≤ 9223372036854775807) : IntKind.i64.wrap (n : Int) = n := i64_in _ (by omega)
theorem quo128 (m : Nat) (h : m ≤ 9223372036854775807) : IntKind.i64.wrap ((m : Int).tdiv 128) = ((m / 128 : Nat) : Int) := i64_quo m 128 (by omega)

/-! ### Room -/
theorem bg {n m b : Nat} (h : n + m ≤ 100000000) (hb : Nat.ble b 1000 = true := by rfl) : (n + m) * b ≤ bigB := by
  have h2 := Nat.le_of_ble_eq_true hb
  have := Nat.mul_le_mul h h2
  unfold bigB; omega
theorem bg1 {n b : Nat} (h : n ≤ 100000000) (hb : Nat.ble b 1000 = true := by rfl) : n * b ≤ bigB := bg (m := 0) h hb
theorem bgb {n : Nat} (h : n ≤ 100000000) : n ≤ bigB := by unfold bigB; omega
theorem ape {N : List Cell} {s : Nat} : (([] : List Cell).drop 0).take (0 * s) ++ N = N := by simp

end Go.Proofs.Ytacfohamlkbpjaa
