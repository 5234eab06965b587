/- Functions of the program, each with what it gives back. -/
import Derived.Test.YtopnaijeicknoaaGreatDoorKe
import Derived.Test.YtopnaijeicknoaaGreatDoorChecked
import Derived.IntWalk
import Derived.Test.YtopnaijeicknoaaGreatDoorMo
import Derived.Test.YtopnaijeicknoaaGreatDoorFc
namespace Go.Proofs.YtopnaijeicknoaaGreatDoor
open Go Go.RowKit Go.IntWalk
open Enc (sz cs)
attribute [local irreducible] IntKind.wrap

/-! ### Numbers as bytes, the highest first -/
def beB : Nat → Nat → List UInt8
  | 0, _ => []
  | k + 1, n => UInt8.ofNat (n / 2 ^ (8 * k)) :: beB k n
theorem beB_len : ∀ k n, (beB k n).length = k
  | 0, _ => rfl
  | k + 1, n => by rw [beB, List.length_cons, beB_len k n]
theorem beB_0 (n : Nat) : beB 0 n = [] := rfl
theorem beB_s (k n : Nat) : beB (k + 1) n = UInt8.ofNat (n / 2 ^ (8 * k)) :: beB k n := rfl
def tnB (t : UInt8) (l : List UInt8) : List UInt8 := l.map (· ^^^ t)
theorem tnB_len (t : UInt8) (l : List UInt8) : (tnB t l).length = l.length := by unfold tnB; rw [List.length_map]
theorem shrM {n m : Nat} (h : m ≤ 7) : (n : Int).fdiv (2 ^ min ((8 * m : Nat) : Int).toNat IntKind.i64.bits) = ((n / 2 ^ (8 * m) : Nat) : Int) := by
  rw [show min ((8 * m : Nat) : Int).toNat IntKind.i64.bits = 8 * m from Nat.min_eq_left (by show 8 * m ≤ 64; omega)]
  exact shrN n (8 * m)
theorem xorU8 (a b : UInt8) : IntKind.u8.wrap ((BitVec.ofInt IntKind.u8.bits (a.toNat : Int) ^^^ BitVec.ofInt IntKind.u8.bits (b.toNat : Int)).toNat : Int) = ((a ^^^ b).toNat : Int) := by
  have e : (BitVec.ofInt IntKind.u8.bits (a.toNat : Int) ^^^ BitVec.ofInt IntKind.u8.bits (b.toNat : Int)).toNat = (a ^^^ b).toNat := by
    show (BitVec.ofInt 8 (a.toNat : Int) ^^^ BitVec.ofInt 8 (b.toNat : Int)).toNat = (a ^^^ b).toNat
    have ha := UInt8.toNat_lt a
    have hb := UInt8.toNat_lt b
    have q : ∀ m : Nat, BitVec.ofInt 8 (m : Int) = BitVec.ofNat 8 m := fun m => by simp
    rw [q, q, BitVec.toNat_xor, BitVec.toNat_ofNat, BitVec.toNat_ofNat, Nat.mod_eq_of_lt (by omega), Nat.mod_eq_of_lt (by omega), UInt8.toNat_xor]
  rw [e]
  have := UInt8.toNat_lt (a ^^^ b)
  rw [IntKind.wrap_u8]; omega
abbrev aU8 (t : UInt8) : Arg := .val false [.prim (.int .u8 (t.toNat : Int))]

set_option maxRecDepth 100000 in
theorem tx177 {bs : List UInt8} {n k : Nat} {t : UInt8} (hb : bs.length ≤ 10000000 := by first | assumption | omega | (simp; done) | (simp; omega)) (hn : n < 9223372036854775808 := by first | assumption | omega | (simp; done) | (simp; omega)) (hk : k ≤ 7 := by first | assumption | omega | (simp; done) | (simp; omega)) : T 177 [aO bs, aI (n : Int), aI (k : Int), aU8 t] [vE (bs ++ tnB t (beB k n))] [none, none, none, none] := by
  refine w_call md [] Tryz.func177 rfl ?_
  repeat' ((conv => whnf); (first | refine k0 ?_ | refine jA fun _ => ?_ | refine jB fun _ => ?_ | refine kC (fun _ => ?_) fun _ => ?_ | refine jst ?_ | exact ⟨rfl, rfl⟩ | exact jV | fail))
  conv => whnf
  refine loopk (ι := Nat × List UInt8) (fun i => i.2 ++ tnB t (beB i.1 n) = bs ++ tnB t (beB k n) ∧ i.1 ≤ k) (fun i => i.1) ((k, bs)) [1, 3] (fun i => [(0, rE 4 i.2), (9, .v false [i6 ((i.1 : Int) - 1)])]) [some fun _ => none, none, none, none, some fun i => nE i.2] ?_
  refine ⟨⟨rfl, Nat.le_refl _⟩, ?_, fun ⟨m, l⟩ hi => ?_⟩
  · exact jw []
  · dsimp only at hi ⊢
    have hll : l.length ≤ bs.length + 7 := by have := congrArg List.length hi.1; simp [tnB_len, beB_len] at this; omega
    refine ⟨fun hlt => ?_, fun hge => ?_⟩
    · dsimp only at hlt
      obtain ⟨m, rfl⟩ : ∃ a, m = a + 1 := ⟨m - 1, by omega⟩
      repeat' ((conv => whnf); (first | refine Exists.intro ((8 * m : Nat) : Int) (And.intro ((i64_in _ (by simp only; omega)).trans (by simp only; omega)) ?_) | refine And.intro (Int.natCast_nonneg _) (Exists.intro _ (And.intro (shrM (by omega)) ?_)) | refine Exists.intro _ (And.intro (xorU8 _ _) ?_) | refine Exists.intro _ (And.intro (u8n _) ?_) | refine Exists.intro ((m : Int) - 1) (And.intro ((i64_in _ (by simp only; omega)).trans (by simp only; omega)) ?_) | refine jap (apB ?_) | refine k0 ?_ | refine jA fun _ => ?_ | refine jB fun _ => ?_ | refine kC (fun _ => ?_) fun _ => ?_ | refine jst ?_ | exact ⟨rfl, rfl⟩ | exact jV | fail))
      refine ⟨⟨(m, l ++ [UInt8.ofNat (n / 2 ^ (8 * m)) ^^^ t]), by rw [← hi.1, beB_s, List.append_assoc]; rfl, by simp only; omega⟩, by simp only; omega, ?_⟩
      dsimp only
      exact jw []
    · obtain rfl : m = 0 := by omega
      repeat' ((conv => whnf); (first | refine k0 ?_ | refine jA fun _ => ?_ | refine jB fun _ => ?_ | refine kC (fun _ => ?_) fun _ => ?_ | refine jst ?_ | exact ⟨rfl, rfl⟩ | exact jV | fail))
      exact ⟨by rw [← hi.1, beB_0]; simp [tnB], rfl⟩

theorem cx177 {P : Program} {X : FuncId → List Arg → List (Bool × List Cell) → List (Option (List Cell)) → Prop} {a : List Arg} {Q : List (Bool × List Cell) → List (Option (List Cell)) → Prop} (h : ∃ b vals outs, a = b ∧ D P X (.call 177 b vals outs) ∧ Q vals outs) : CallS P X 177 a Q := ⟨h⟩

def bN (n : Nat) : Nat := if h : n = 0 then 0 else bN (n / 256) + 1
theorem bN_0 : bN 0 = 0 := by rw [bN]; rfl
theorem bN_s {n : Nat} (h : n ≠ 0) : bN n = bN (n / 256) + 1 := by rw [bN, dif_neg h]
theorem bN_le : ∀ (k n : Nat), n < 256 ^ k → bN n ≤ k
  | 0, n, h => by
    have : n = 0 := by rw [Nat.pow_zero] at h; omega
    subst this; rw [bN_0]; exact Nat.le_refl _
  | k + 1, n, h => by
    by_cases e : n = 0
    · subst e; rw [bN_0]; omega
    · rw [bN_s e]
      have := bN_le k (n / 256) (by rw [Nat.pow_succ] at h; omega)
      omega

set_option maxRecDepth 100000 in
theorem tx176 {n : Nat} (hn : n < 9223372036854775808 := by first | assumption | omega | (simp; done) | (simp; omega)) : T 176 [aI (n : Int)] [vI (bN n)] [none] := by
  refine w_call md [] Tryz.func176 rfl ?_
  repeat' ((conv => whnf); (first | refine k0 ?_ | refine jA fun _ => ?_ | refine jB fun _ => ?_ | refine kC (fun _ => ?_) fun _ => ?_ | refine jst ?_ | exact ⟨rfl, rfl⟩ | exact jV | fail))
  conv => whnf
  refine loopk (ι := Nat × Nat) (fun i => i.2 + bN i.1 = bN n ∧ i.1 ≤ n) (fun i => i.1) ((n, 0)) [] (fun i => [(0, .v false [i6 i.1]), (3, .v false [i6 i.2])]) [none] ?_
  refine ⟨⟨by simp only; omega, Nat.le_refl _⟩, ?_, fun ⟨m, l⟩ hi => ?_⟩
  · exact jw []
  · dsimp only at hi ⊢
    have h8 := bN_le 8 n (by omega)
    refine ⟨fun hlt => ?_, fun hge => ?_⟩
    · dsimp only at hlt
      have hm : m ≠ 0 := by omega
      have hb := bN_s hm
      repeat' ((conv => whnf); (first | refine And.intro (by decide) (Exists.intro _ (And.intro (shrN m 8) ?_)) | refine Exists.intro ((l + 1 : Nat) : Int) (And.intro ((i64_in _ (by simp only; omega)).trans (by simp only; omega)) ?_) | refine k0 ?_ | refine jA fun _ => ?_ | refine jB fun _ => ?_ | refine kC (fun _ => ?_) fun _ => ?_ | refine jst ?_ | exact ⟨rfl, rfl⟩ | exact jV | fail))
      refine ⟨⟨(m / 256, l + 1), by simp only; omega, by simp only; omega⟩, by simp only; omega, ?_⟩
      dsimp only
      exact jw []
    · obtain rfl : m = 0 := by dsimp only at hge; omega
      rw [bN_0] at hi
      repeat' ((conv => whnf); (first | refine k0 ?_ | refine jA fun _ => ?_ | refine jB fun _ => ?_ | refine kC (fun _ => ?_) fun _ => ?_ | refine jst ?_ | exact ⟨rfl, rfl⟩ | exact jV | fail))
      all_goals exact ⟨by rw [← hi.1], rfl⟩

theorem cx176 {P : Program} {X : FuncId → List Arg → List (Bool × List Cell) → List (Option (List Cell)) → Prop} {a : List Arg} {Q : List (Bool × List Cell) → List (Option (List Cell)) → Prop} (h : ∃ b vals outs, a = b ∧ D P X (.call 176 b vals outs) ∧ Q vals outs) : CallS P X 176 a Q := ⟨h⟩

theorem tnB_0 (l : List UInt8) : tnB 0 l = l := by
  unfold tnB
  conv => rhs; rw [← List.map_id l]
  refine List.map_congr_left fun x _ => ?_
  show x ^^^ 0 = x
  exact UInt8.xor_zero
def fxN (n : Int) : Nat := (max (-2147483648) (min n 2147483647) + 2147483648).toNat
theorem fxN_lt (n : Int) : fxN n < 4294967296 := by unfold fxN; omega
theorem fxN_eq (n : Int) : max (-2147483648) (min n 2147483647) + 2147483648 = (fxN n : Int) := by unfold fxN; omega
/-- A number of four bytes behind bytes. -/
abbrev ptF (bs : List UInt8) (n : Int) : List UInt8 := bs ++ beB 4 (fxN n)
theorem beB4 (n : Nat) : beB 4 n = be4 n := by
  unfold beB beB beB beB beB be4
  simp

set_option maxRecDepth 100000 in
theorem tx191 {bs : List UInt8} {n : Int} (hb : bs.length ≤ 10000000 := by first | assumption | omega | (simp; done) | (simp; omega)) : T 191 [aO bs, aI n] [vE (ptF bs n)] [none, none] := by
  refine w_call md [] Tryz.func191 rfl ?_
  have hq := fxN_eq n
  have hl := fxN_lt n
  have hA : T 177 [aO bs, aI (fxN n : Nat), aI ((4 : Nat) : Int), aU8 0] [vE (bs ++ beB 4 (fxN n))] [none, none, none, none] := by
    have h := tx177 (bs := bs) (n := fxN n) (k := 4) (t := 0)
    rwa [tnB_0] at h
  repeat' ((conv => whnf); (first | refine Exists.intro (fxN n : Int) (And.intro ((i64_in _ (by omega)).trans hq) ?_) | (apply cx177; refine kl (hA) ?_) | refine k0 ?_ | refine jA fun _ => ?_ | refine jB fun _ => ?_ | refine kC (fun _ => ?_) fun _ => ?_ | (apply cx175; refine kl tx175 ?_) | (apply cx177; refine kl tx177 ?_) | refine jst ?_ | exact ⟨rfl, rfl⟩ | exact jV | fail))

theorem cx191 {P : Program} {X : FuncId → List Arg → List (Bool × List Cell) → List (Option (List Cell)) → Prop} {a : List Arg} {Q : List (Bool × List Cell) → List (Option (List Cell)) → Prop} (h : ∃ b vals outs, a = b ∧ D P X (.call 191 b vals outs) ∧ Q vals outs) : CallS P X 191 a Q := ⟨h⟩

set_option maxRecDepth 100000 in
theorem tx186 {bs : List UInt8} {n : Int} (hb : bs.length ≤ 10000000 := by first | assumption | omega | (simp; done) | (simp; omega)) : T 186 [aE bs, aI n] [vE (ptF bs n)] [none, none] := by
  refine w_call md [] Tryz.func186 rfl ?_
  have hq := fxN_eq n
  have hl := fxN_lt n
  unfold ptF
  rw [beB4]
  repeat' ((conv => whnf); (first | refine Exists.intro _ (Exists.intro (cs true (_ : List UInt8)) (And.intro rfl (And.intro ⟨Nat.le_refl _, bgb (by omega), bg (by omega)⟩ (Exists.intro _ (And.intro ape (Exists.intro _ (And.intro (Nat.zero_add _) ?_))))))) | refine Exists.intro (fxN n : Int) (And.intro ((i64_in _ (by omega)).trans (by omega)) ?_) | refine And.intro (by decide) (Exists.intro _ (And.intro (shrN (fxN n) 24) ?_)) | refine And.intro (by decide) (Exists.intro _ (And.intro (shrN (fxN n) 16) ?_)) | refine And.intro (by decide) (Exists.intro _ (And.intro (shrN (fxN n) 8) ?_)) | refine Exists.intro _ (And.intro (u8n _) ?_) | refine Exists.intro _ (Exists.intro (cs true (be4 (fxN n))) (And.intro rfl (And.intro ⟨by simp, bgb (by omega), bg (by omega)⟩ (apE (ys := be4 (fxN n)) ?_)))) | refine k0 ?_ | refine jA fun _ => ?_ | refine jB fun _ => ?_ | refine kC (fun _ => ?_) fun _ => ?_ | refine jst ?_ | exact ⟨rfl, rfl⟩ | exact jV | fail))

theorem cx186 {P : Program} {X : FuncId → List Arg → List (Bool × List Cell) → List (Option (List Cell)) → Prop} {a : List Arg} {Q : List (Bool × List Cell) → List (Option (List Cell)) → Prop} (h : ∃ b vals outs, a = b ∧ D P X (.call 186 b vals outs) ∧ Q vals outs) : CallS P X 186 a Q := ⟨h⟩

def vrC (n : Int) : Int := max (-1000000000000000) (min n 1000000000000000)
def vrP (n : Int) : List UInt8 := UInt8.ofNat (128 + bN n.toNat) :: beB (bN n.toNat) n.toNat
def vrM (n : Int) : List UInt8 := UInt8.ofNat (127 - bN (-1 - n).toNat) :: tnB 255 (beB (bN (-1 - n).toNat) (-1 - n).toNat)
def vrB (n : Int) : List UInt8 := if 0 ≤ vrC n then vrP (vrC n) else vrM (vrC n)
theorem vrB_p {n : Int} (h : 0 ≤ vrC n) : vrB n = vrP (vrC n) := if_pos h
theorem vrB_m {n : Int} (h : ¬ 0 ≤ vrC n) : vrB n = vrM (vrC n) := if_neg h
abbrev ptW (bs : List UInt8) (n : Int) : List UInt8 := bs ++ vrB n
theorem bN7 {n : Nat} (h : n ≤ 1000000000000000) : bN n ≤ 7 := bN_le 7 n (by omega)

set_option maxRecDepth 100000 in
theorem tx156 {bs : List UInt8} {n : Int} (hb : bs.length ≤ 9000000 := by first | assumption | omega | (simp; done) | (simp; omega)) : T 156 [aO bs, aI n] [vE (ptW bs n)] [none, none] := by
  refine w_call md [] Tryz.func156 rfl ?_
  have hc : -1000000000000000 ≤ vrC n ∧ vrC n ≤ 1000000000000000 := by unfold vrC; omega
  have hC : T 175 [aI n, aI (-1000000000000000), aI 1000000000000000] [vI (vrC n)] [none, none, none] := tx175
  unfold ptW
  by_cases h0 : 0 ≤ vrC n
  · rw [vrB_p h0]
    generalize vrC n = c at hc hC h0
    obtain ⟨m, rfl⟩ : ∃ m : Nat, c = m := ⟨c.toNat, by omega⟩
    have hb7 := bN7 (n := m) (by omega)
    have hA : T 177 [aO (bs ++ [UInt8.ofNat (128 + bN m)]), aI (m : Nat), aI (bN m : Nat), aU8 0] [vE (bs ++ vrP m)] [none, none, none, none] := by
      have h := tx177 (bs := bs ++ [UInt8.ofNat (128 + bN m)]) (n := m) (k := bN m) (t := 0)
      rw [tnB_0, List.append_assoc] at h
      exact h
    repeat' ((conv => whnf); (first | (apply cx175; refine kl (hC) ?_) | (apply cx176; refine kl (tx176 (n := m)) ?_) | (apply cx177; refine kl (hA) ?_) | refine Exists.intro ((128 + bN m : Nat) : Int) (And.intro ((i64_in _ (by omega)).trans (by omega)) ?_) | refine Exists.intro _ (And.intro (u8n _) ?_) | refine jap (apB ?_) | refine k0 ?_ | refine jA fun _ => ?_ | refine jB fun _ => ?_ | refine kC (fun _ => ?_) fun _ => ?_ | (apply cx175; refine kl tx175 ?_) | (apply cx176; refine kl tx176 ?_) | (apply cx177; refine kl tx177 ?_) | refine jst ?_ | exact ⟨rfl, rfl⟩ | exact jV | fail))
  · rw [vrB_m h0]
    generalize vrC n = c at hc hC h0
    obtain ⟨m, hm⟩ : ∃ m : Nat, -1 - c = m := ⟨(-1 - c).toNat, by omega⟩
    have hb7 := bN7 (n := m) (by omega)
    have hA : T 177 [aO (bs ++ [UInt8.ofNat (127 - bN m)]), aI (m : Nat), aI (bN m : Nat), aU8 255] [vE (bs ++ vrM c)] [none, none, none, none] := by
      have h := tx177 (bs := bs ++ [UInt8.ofNat (127 - bN m)]) (n := m) (k := bN m) (t := 255)
      rw [List.append_assoc] at h
      unfold vrM
      rw [hm]
      exact h
    repeat' ((conv => whnf); (first | (apply cx175; refine kl (hC) ?_) | (apply cx176; refine kl (tx176 (n := m)) ?_) | (apply cx177; refine kl (hA) ?_) | refine Exists.intro ((127 - bN m : Nat) : Int) (And.intro ((i64_in _ (by omega)).trans (by omega)) ?_) | refine Exists.intro ((m : Nat) : Int) (And.intro ((i64_in _ (by omega)).trans (by omega)) ?_) | refine Exists.intro _ (And.intro (u8n _) ?_) | refine jap (apB ?_) | refine k0 ?_ | refine jA fun _ => ?_ | refine jB fun _ => ?_ | refine kC (fun _ => ?_) fun _ => ?_ | (apply cx175; refine kl tx175 ?_) | (apply cx176; refine kl tx176 ?_) | (apply cx177; refine kl tx177 ?_) | refine jst ?_ | exact ⟨rfl, rfl⟩ | exact jV | fail))

theorem cx156 {P : Program} {X : FuncId → List Arg → List (Bool × List Cell) → List (Option (List Cell)) → Prop} {a : List Arg} {Q : List (Bool × List Cell) → List (Option (List Cell)) → Prop} (h : ∃ b vals outs, a = b ∧ D P X (.call 156 b vals outs) ∧ Q vals outs) : CallS P X 156 a Q := ⟨h⟩

theorem div_sh (n j : Nat) : n / 2 ^ (8 * j) / 256 = n / 2 ^ (8 * (j + 1)) := by
  rw [Nat.div_div_eq_div_mul, show 8 * (j + 1) = 8 * j + 8 from rfl, Nat.pow_add]

set_option maxRecDepth 100000 in
theorem tx166 {n : Nat} (hn : n < 9223372036854775808 := by first | assumption | omega | (simp; done) | (simp; omega)) : T 166 [aI (n : Int)] [vE (beB (bN n) n)] [none] := by
  refine w_call md [] Tryz.func166 rfl ?_
  have h8 := bN_le 8 n (by omega)
  repeat' ((conv => whnf); (first | refine k0 ?_ | refine jA fun _ => ?_ | refine jB fun _ => ?_ | refine kC (fun _ => ?_) fun _ => ?_ | refine jst ?_ | exact ⟨rfl, rfl⟩ | exact jV | fail))
  conv => whnf
  refine loopk (ι := Nat × Nat × List UInt8) (fun i => i.1 + bN i.2.1 = bN n ∧ i.2.1 = n / 2 ^ (8 * i.1) ∧ i.2.2 = beB i.1 n ∧ i.2.1 ≤ n) (fun i => i.2.1) ((0, n, [])) [] (fun i => [(0, .v false [i6 i.2.1]), (3, rE 1 i.2.2)]) [none, some fun i => nE i.2.2] ?_
  refine ⟨⟨by simp only; omega, by simp only; simp, rfl, Nat.le_refl _⟩, ?_, fun ⟨j, m, l⟩ hi => ?_⟩
  · exact jw []
  · dsimp only at hi ⊢
    have hl := beB_len j n
    rw [← hi.2.2.1] at hl
    refine ⟨fun hlt => ?_, fun hge => ?_⟩
    · dsimp only at hlt
      have hm : m ≠ 0 := by omega
      have hb := bN_s hm
      repeat' ((conv => whnf); (first | refine And.intro (by decide) (Exists.intro _ (And.intro (shrN m 8) ?_)) | refine Exists.intro _ (And.intro (u8n _) ?_) | refine jap (apE (o := true) (xs := [UInt8.ofNat m]) (ys := l) ?_) (srcO (α := UInt8) rfl rfl) | refine k0 ?_ | refine jA fun _ => ?_ | refine jB fun _ => ?_ | refine kC (fun _ => ?_) fun _ => ?_ | refine jst ?_ | exact ⟨rfl, rfl⟩ | exact jV | fail))
      refine ⟨⟨(j + 1, m / 256, [UInt8.ofNat m] ++ l), by simp only; omega, by simp only; rw [hi.2.1, div_sh], by simp only; rw [beB_s, hi.2.1, hi.2.2.1]; rfl, by simp only; omega⟩, by simp only; omega, ?_⟩
      dsimp only
      exact jw []
    · obtain rfl : m = 0 := by dsimp only at hge; omega
      rw [bN_0] at hi
      have e : l = beB (bN n) n := by rw [hi.2.2.1, ← hi.1]; rfl
      repeat' ((conv => whnf); (first | refine k0 ?_ | refine jA fun _ => ?_ | refine jB fun _ => ?_ | refine kC (fun _ => ?_) fun _ => ?_ | refine jst ?_ | exact ⟨rfl, rfl⟩ | exact jV | fail))
      all_goals exact ⟨by rw [← e], rfl⟩

theorem cx166 {P : Program} {X : FuncId → List Arg → List (Bool × List Cell) → List (Option (List Cell)) → Prop} {a : List Arg} {Q : List (Bool × List Cell) → List (Option (List Cell)) → Prop} (h : ∃ b vals outs, a = b ∧ D P X (.call 166 b vals outs) ∧ Q vals outs) : CallS P X 166 a Q := ⟨h⟩

def fl1 (l : List UInt8) (k i : Nat) : List UInt8 := l.mapIdx fun j x => if k ≤ j ∧ j < i then x ^^^ 255 else x
theorem fl1_len (l : List UInt8) (k i : Nat) : (fl1 l k i).length = l.length := by unfold fl1; rw [List.length_mapIdx]
theorem fl1_0 {l : List UInt8} {k i : Nat} (h : i ≤ k) : fl1 l k i = l := by
  unfold fl1
  refine List.ext_getElem (by simp) fun j h1 h2 => ?_
  rw [List.getElem_mapIdx, if_neg (by omega)]
theorem fl1_at {l : List UInt8} {k i j : Nat} (h : j < (fl1 l k i).length) : (fl1 l k i)[j] = if k ≤ j ∧ j < i then l[j]'(by rwa [fl1_len] at h) ^^^ 255 else l[j]'(by rwa [fl1_len] at h) := by
  exact List.getElem_mapIdx ..
theorem fl1_set {l : List UInt8} {k i : Nat} (hk : k ≤ i) (h : i < (fl1 l k i).length) : (fl1 l k i).set i ((fl1 l k i)[i] ^^^ 255) = fl1 l k (i + 1) := by
  refine List.ext_getElem (by simp [fl1_len]) fun j h1 h2 => ?_
  rw [List.getElem_set]
  split
  · rename_i e; subst e
    rw [fl1_at, fl1_at, if_neg (by omega), if_pos (by omega)]
  · refine (fl1_at _).trans (Eq.trans ?_ (fl1_at _).symm)
    by_cases q : k ≤ j ∧ j < i
    · rw [if_pos q, if_pos (by omega)]
    · rw [if_neg q, if_neg (by omega)]
theorem fl1_app (a b : List UInt8) : fl1 (a ++ b) a.length (a ++ b).length = a ++ tnB 255 b := by
  unfold fl1 tnB
  refine List.ext_getElem (by simp) fun j h1 h2 => ?_
  rw [List.getElem_mapIdx]
  rw [List.length_mapIdx, List.length_append] at h1
  by_cases q : j < a.length
  · rw [if_neg (by omega), List.getElem_append_left q, List.getElem_append_left q]
  · rw [if_pos (by rw [List.length_append]; omega), List.getElem_append_right (by omega), List.getElem_append_right (by omega), List.getElem_map]
theorem fl1_all (b : List UInt8) : fl1 b 0 b.length = tnB 255 b := fl1_app [] b
theorem notU8 (b : UInt8) : IntKind.u8.wrap ((BitVec.ofInt IntKind.u8.bits 255 ^^^ BitVec.ofInt IntKind.u8.bits (b.toNat : Int)).toNat : Int) = ((b ^^^ 255).toNat : Int) := by
  rw [UInt8.xor_comm]
  exact xorU8 255 b

set_option maxRecDepth 100000 in
theorem tx193 {bs : List UInt8} {k : Nat} (hb : bs.length ≤ 10000000 := by first | assumption | omega | (simp; done) | (simp; omega)) (hk : k ≤ 10000000 := by first | assumption | omega | (simp; done) | (simp; omega)) : T 193 [aE bs, aI (k : Int)] [vE (fl1 bs k bs.length)] [none, none] := by
  refine w_call md [] Tryz.func193 rfl ?_
  repeat' ((conv => whnf); (first | refine Exists.intro (k : Int) (And.intro (by omega) ?_) | refine k0 ?_ | refine jA fun _ => ?_ | refine jB fun _ => ?_ | refine kC (fun _ => ?_) fun _ => ?_ | (apply cx198; refine kl tx198 ?_) | refine jst ?_ | exact ⟨rfl, rfl⟩ | exact jV | fail))
  conv => whnf
  refine loopk (ι := Nat × List UInt8) (fun i => k ≤ i.1 ∧ (i.1 ≤ bs.length ∨ i.1 = k) ∧ i.2 = fl1 bs k i.1) (fun i => bs.length - i.1) ((k, bs)) [] (fun i => [(5, rE 2 i.2), (6, .v false [i6 i.1])]) [none, none, some fun i => nE i.2] ?_
  refine ⟨⟨Nat.le_refl _, .inr rfl, (fl1_0 (Nat.le_refl k)).symm⟩, ?_, fun ⟨i, l⟩ hi => ?_⟩
  · exact jw []
  · dsimp only at hi ⊢
    have hl : l.length = bs.length := by rw [hi.2.2, fl1_len]
    refine ⟨fun hlt => ?_, fun hge => ?_⟩
    · dsimp only at hlt
      have hi2 : i < l.length := by omega
      repeat' ((conv => whnf); (first | refine Exists.intro _ (And.intro (notU8 _) ?_) | refine k0 ?_ | refine jA fun _ => ?_ | refine jB fun _ => ?_ | refine kC (fun _ => ?_) fun _ => ?_ | (apply cx198; refine kl tx198 ?_) | refine jst ?_ | exact ⟨rfl, rfl⟩ | exact jV | fail))
      refine ⟨⟨(i + 1, l.set i (l[i] ^^^ 255)), by simp only; omega, by simp only; omega, ?_⟩, by simp only; omega, ?_⟩
      · simp only
        obtain rfl := hi.2.2
        exact fl1_set hi.1 hi2
      · dsimp only
        exact jw []
    · dsimp only at hge
      have e : l = fl1 bs k bs.length := by
        rw [hi.2.2]
        rcases hi.2.1 with q | q
        · rw [show i = bs.length by omega]
        · subst q
          rw [fl1_0 (Nat.le_refl _), fl1_0 (by omega)]
      repeat' ((conv => whnf); (first | refine k0 ?_ | refine jA fun _ => ?_ | refine jB fun _ => ?_ | refine kC (fun _ => ?_) fun _ => ?_ | (apply cx198; refine kl tx198 ?_) | refine jst ?_ | exact ⟨rfl, rfl⟩ | exact jV | fail))
      all_goals exact ⟨by rw [← e], rfl⟩

theorem cx193 {P : Program} {X : FuncId → List Arg → List (Bool × List Cell) → List (Option (List Cell)) → Prop} {a : List Arg} {Q : List (Bool × List Cell) → List (Option (List Cell)) → Prop} (h : ∃ b vals outs, a = b ∧ D P X (.call 193 b vals outs) ∧ Q vals outs) : CallS P X 193 a Q := ⟨h⟩

set_option maxRecDepth 100000 in
theorem tx167 {bs : List UInt8} {k : Nat} (hb : bs.length ≤ 10000000 := by first | assumption | omega | (simp; done) | (simp; omega)) (hk : k ≤ 10000000 := by first | assumption | omega | (simp; done) | (simp; omega)) : T 167 [aE bs, aI (k : Int)] [vE (fl1 bs k bs.length)] [none, none] := by
  refine w_call md [] Tryz.func167 rfl ?_
  repeat' ((conv => whnf); (first | refine Exists.intro _ (Exists.intro (cs true (_ : List UInt8)) (And.intro rfl (And.intro ⟨Nat.le_refl _, bgb (by omega), bg (by omega)⟩ (Exists.intro _ (And.intro ape (Exists.intro _ (And.intro (Nat.zero_add _) ?_))))))) | refine k0 ?_ | refine jA fun _ => ?_ | refine jB fun _ => ?_ | refine kC (fun _ => ?_) fun _ => ?_ | refine jst ?_ | exact ⟨rfl, rfl⟩ | exact jV | fail))
  conv => whnf
  refine loopk (ι := Nat × List UInt8) (fun i => i.1 ≤ bs.length ∧ i.2 = fl1 bs k i.1) (fun i => bs.length - i.1) ((0, bs)) [1] (fun i => [(5, rE 2 i.2), (6, .v false [i6 i.1])]) [none, none, some fun i => nE i.2] ?_
  refine ⟨⟨Nat.zero_le _, (fl1_0 (Nat.zero_le k)).symm⟩, ?_, fun ⟨i, l⟩ hi => ?_⟩
  · exact jw []
  · dsimp only at hi ⊢
    have hl : l.length = bs.length := by rw [hi.2, fl1_len]
    refine ⟨fun hlt => ?_, fun hge => ?_⟩
    · dsimp only at hlt
      have hi2 : i < l.length := by omega
      by_cases hk2 : k ≤ i
      · repeat' ((conv => whnf); (first | refine Exists.intro _ (And.intro (notU8 _) ?_) | refine k0 ?_ | refine jA fun _ => ?_ | refine jB fun _ => ?_ | refine kC (fun _ => ?_) fun _ => ?_ | refine jst ?_ | exact ⟨rfl, rfl⟩ | exact jV | fail))
        refine ⟨⟨(i + 1, l.set i (l[i] ^^^ 255)), by simp only; omega, ?_⟩, by simp only; omega, ?_⟩
        · simp only
          obtain rfl := hi.2
          exact fl1_set hk2 hi2
        · dsimp only
          exact jw []
      · repeat' ((conv => whnf); (first | refine k0 ?_ | refine jA fun _ => ?_ | refine jB fun _ => ?_ | refine kC (fun _ => ?_) fun _ => ?_ | refine jst ?_ | exact ⟨rfl, rfl⟩ | exact jV | fail))
        refine ⟨⟨(i + 1, l), by simp only; omega, ?_⟩, by simp only; omega, ?_⟩
        · simp only
          rw [hi.2, fl1_0 (by omega), fl1_0 (by omega)]
        · dsimp only
          exact jw []
    · dsimp only at hge
      have e : l = fl1 bs k bs.length := by rw [hi.2, show i = bs.length by omega]
      repeat' ((conv => whnf); (first | refine k0 ?_ | refine jA fun _ => ?_ | refine jB fun _ => ?_ | refine kC (fun _ => ?_) fun _ => ?_ | refine jst ?_ | exact ⟨rfl, rfl⟩ | exact jV | fail))
      all_goals exact ⟨by rw [← e], rfl⟩

theorem cx167 {P : Program} {X : FuncId → List Arg → List (Bool × List Cell) → List (Option (List Cell)) → Prop} {a : List Arg} {Q : List (Bool × List Cell) → List (Option (List Cell)) → Prop} (h : ∃ b vals outs, a = b ∧ D P X (.call 167 b vals outs) ∧ Q vals outs) : CallS P X 167 a Q := ⟨h⟩

set_option maxRecDepth 100000 in
theorem tx147 {bs : List UInt8} {n : Int} (hb : bs.length ≤ 9000000 := by first | assumption | omega | (simp; done) | (simp; omega)) : T 147 [aE bs, aI n] [vE (ptW bs n)] [none, none] := by
  refine w_call md [] Tryz.func147 rfl ?_
  have hc : -1000000000000000 ≤ vrC n ∧ vrC n ≤ 1000000000000000 := by unfold vrC; omega
  have hv : vrC n = max (-1000000000000000) (min n 1000000000000000) := rfl
  unfold ptW
  by_cases h0 : 0 ≤ vrC n
  · rw [vrB_p h0]
    obtain ⟨m, hm⟩ : ∃ m : Nat, vrC n = m := ⟨(vrC n).toNat, by omega⟩
    have hb7 := bN7 (n := m) (by omega)
    have hl := beB_len (bN m) m
    rw [hm]
    have e : vrP m = [UInt8.ofNat (128 + bN m)] ++ beB (bN m) m := rfl
    rw [e, ← List.append_assoc]
    have hL := tx166 (n := m)
    by_cases h1 : n > 1000000000000000
    · obtain rfl : m = 1000000000000000 := by omega
      generalize beB (bN 1000000000000000) 1000000000000000 = l at *
      generalize bN 1000000000000000 = b at *
      subst hl
      repeat' ((conv => whnf); (first | refine Exists.intro _ (Exists.intro (cs true (_ : List UInt8)) (And.intro rfl (And.intro ⟨Nat.le_refl _, bgb (by omega), bg (by omega)⟩ (Exists.intro _ (And.intro ape (Exists.intro _ (And.intro (Nat.zero_add _) ?_))))))) | (apply cx166; refine kl (hL) ?_) | refine Exists.intro ((128 + l.length : Nat) : Int) (And.intro ((i64_in _ (by omega)).trans (by omega)) ?_) | refine Exists.intro _ (And.intro (u8n _) ?_) | refine jap (apB ?_) | refine jap (apE (ys := l) ?_) (srcO (α := UInt8) rfl rfl) | refine k0 ?_ | refine jA fun _ => ?_ | refine jB fun _ => ?_ | refine kC (fun _ => ?_) fun _ => ?_ | (apply cx166; refine kl tx166 ?_) | (apply cx167; refine kl tx167 ?_) | refine jst ?_ | exact ⟨rfl, rfl⟩ | exact jV | fail))
    · obtain rfl : n = m := by omega
      generalize beB (bN m) m = l at *
      generalize bN m = b at *
      subst hl
      repeat' ((conv => whnf); (first | refine Exists.intro _ (Exists.intro (cs true (_ : List UInt8)) (And.intro rfl (And.intro ⟨Nat.le_refl _, bgb (by omega), bg (by omega)⟩ (Exists.intro _ (And.intro ape (Exists.intro _ (And.intro (Nat.zero_add _) ?_))))))) | (apply cx166; refine kl (hL) ?_) | refine Exists.intro ((128 + l.length : Nat) : Int) (And.intro ((i64_in _ (by omega)).trans (by omega)) ?_) | refine Exists.intro _ (And.intro (u8n _) ?_) | refine jap (apB ?_) | refine jap (apE (ys := l) ?_) (srcO (α := UInt8) rfl rfl) | refine k0 ?_ | refine jA fun _ => ?_ | refine jB fun _ => ?_ | refine kC (fun _ => ?_) fun _ => ?_ | (apply cx166; refine kl tx166 ?_) | (apply cx167; refine kl tx167 ?_) | refine jst ?_ | exact ⟨rfl, rfl⟩ | exact jV | fail))
  · rw [vrB_m h0]
    obtain ⟨m, hm⟩ : ∃ m : Nat, -1 - vrC n = m := ⟨(-1 - vrC n).toNat, by omega⟩
    have hb7 := bN7 (n := m) (by omega)
    have hl := beB_len (bN m) m
    have hF : T 167 [aE (beB (bN m) m), aI 0] [vE (tnB 255 (beB (bN m) m))] [none, none] := by
      have h := tx167 (bs := beB (bN m) m) (k := 0)
      rwa [fl1_all] at h
    have hL := tx166 (n := m)
    have e : vrM (vrC n) = [UInt8.ofNat (127 - bN m)] ++ tnB 255 (beB (bN m) m) := by unfold vrM; rw [hm]; simp
    have hl2 := tnB_len 255 (beB (bN m) m)
    rw [e, ← List.append_assoc]
    generalize tnB 255 (beB (bN m) m) = y at *
    generalize beB (bN m) m = l at *
    generalize bN m = b at *
    subst hl
    by_cases h1 : n < -1000000000000000
    · repeat' ((conv => whnf); (first | refine Exists.intro _ (Exists.intro (cs true (_ : List UInt8)) (And.intro rfl (And.intro ⟨Nat.le_refl _, bgb (by omega), bg (by omega)⟩ (Exists.intro _ (And.intro ape (Exists.intro _ (And.intro (Nat.zero_add _) ?_))))))) | (apply cx166; refine kl (hL) ?_) | (apply cx167; refine kl (hF) ?_) | refine Exists.intro ((127 - l.length : Nat) : Int) (And.intro ((i64_in _ (by omega)).trans (by omega)) ?_) | refine Exists.intro ((m : Nat) : Int) (And.intro ((i64_in _ (by omega)).trans (by omega)) ?_) | refine Exists.intro _ (And.intro (u8n _) ?_) | refine jap (apB ?_) | refine jap (apE (ys := y) ?_) (srcO (α := UInt8) rfl rfl) | refine k0 ?_ | refine jA fun _ => ?_ | refine jB fun _ => ?_ | refine kC (fun _ => ?_) fun _ => ?_ | (apply cx166; refine kl tx166 ?_) | (apply cx167; refine kl tx167 ?_) | refine jst ?_ | exact ⟨rfl, rfl⟩ | exact jV | fail))
    · repeat' ((conv => whnf); (first | refine Exists.intro _ (Exists.intro (cs true (_ : List UInt8)) (And.intro rfl (And.intro ⟨Nat.le_refl _, bgb (by omega), bg (by omega)⟩ (Exists.intro _ (And.intro ape (Exists.intro _ (And.intro (Nat.zero_add _) ?_))))))) | (apply cx166; refine kl (hL) ?_) | (apply cx167; refine kl (hF) ?_) | refine Exists.intro ((127 - l.length : Nat) : Int) (And.intro ((i64_in _ (by omega)).trans (by omega)) ?_) | refine Exists.intro ((m : Nat) : Int) (And.intro ((i64_in _ (by omega)).trans (by omega)) ?_) | refine Exists.intro _ (And.intro (u8n _) ?_) | refine jap (apB ?_) | refine jap (apE (ys := y) ?_) (srcO (α := UInt8) rfl rfl) | refine k0 ?_ | refine jA fun _ => ?_ | refine jB fun _ => ?_ | refine kC (fun _ => ?_) fun _ => ?_ | (apply cx166; refine kl tx166 ?_) | (apply cx167; refine kl tx167 ?_) | refine jst ?_ | exact ⟨rfl, rfl⟩ | exact jV | fail))

theorem cx147 {P : Program} {X : FuncId → List Arg → List (Bool × List Cell) → List (Option (List Cell)) → Prop} {a : List Arg} {Q : List (Bool × List Cell) → List (Option (List Cell)) → Prop} (h : ∃ b vals outs, a = b ∧ D P X (.call 147 b vals outs) ∧ Q vals outs) : CallS P X 147 a Q := ⟨h⟩

def esc1 (b : UInt8) : List UInt8 := if b.toNat = 0 then [b, 255] else [b]
def escN (s : ByteArray) : Nat → List UInt8
  | 0 => []
  | i + 1 => escN s i ++ if h : i < s.size then esc1 s[i] else []
theorem escN_len (s : ByteArray) : ∀ i, (escN s i).length ≤ 2 * i
  | 0 => Nat.le_refl _
  | i + 1 => by
    have := escN_len s i
    rw [escN, List.length_append]
    split
    · unfold esc1; split <;> simp <;> omega
    · simp; omega
theorem escN_y {s : ByteArray} {i : Nat} (h : i < s.size) (h0 : s[i].toNat = 0) : escN s (i + 1) = escN s i ++ [s[i], 255] := by rw [escN, dif_pos h, esc1, if_pos h0]
theorem escN_n {s : ByteArray} {i : Nat} (h : i < s.size) (h0 : ¬ s[i].toNat = 0) : escN s (i + 1) = escN s i ++ [s[i]] := by rw [escN, dif_pos h, esc1, if_neg h0]
/-- A text with its end, behind bytes. -/
abbrev ptE (bs : List UInt8) (s : ByteArray) : List UInt8 := bs ++ (escN s s.size ++ [0, 1])

set_option maxRecDepth 100000 in
theorem tx192 {bs : List UInt8} {s : ByteArray} (hb : bs.length ≤ 5000000 := by first | assumption | omega | (simp; done) | (simp; omega)) (hs : s.size ≤ 2000000 := by first | assumption | omega | (simp; done) | (simp; omega)) : T 192 [aO bs, aS s] [vE (ptE bs s)] [none, none] := by
  refine w_call md [] Tryz.func192 rfl ?_
  repeat' ((conv => whnf); (first | refine k0 ?_ | refine jA fun _ => ?_ | refine jB fun _ => ?_ | refine kC (fun _ => ?_) fun _ => ?_ | refine jst ?_ | exact ⟨rfl, rfl⟩ | exact jV | fail))
  conv => whnf
  refine loopk (ι := Nat × List UInt8) (fun i => i.1 ≤ s.size ∧ i.2 = bs ++ escN s i.1) (fun i => s.size - i.1) ((0, bs)) [1] (fun i => [(0, rE 2 i.2), (5, .v false [i6 i.1])]) [some fun _ => none, none, some fun i => nE i.2] ?_
  refine ⟨⟨Nat.zero_le _, by simp [escN]⟩, ?_, fun ⟨i, l⟩ hi => ?_⟩
  · exact jw []
  · dsimp only at hi ⊢
    have hn := escN_len s i
    have hl : l.length ≤ 9000000 := by rw [hi.2, List.length_append]; omega
    refine ⟨fun hlt => ?_, fun hge => ?_⟩
    · dsimp only at hlt
      have hi2 : i < s.size := by omega
      by_cases h0 : s[i].toNat = 0
      · repeat' ((conv => whnf); (first | refine And.intro (by omega) (Exists.intro s[i] (And.intro (sgt hi2) ?_)) | refine jap (apE (ys := [255]) ?_) | refine jap (apB ?_) | refine k0 ?_ | refine jA fun _ => ?_ | refine jB fun _ => ?_ | refine kC (fun _ => ?_) fun _ => ?_ | refine jst ?_ | exact ⟨rfl, rfl⟩ | exact jV | fail))
        refine ⟨⟨(i + 1, l ++ [s[i]] ++ [255]), by simp only; omega, by simp only; rw [escN_y hi2 h0, hi.2]; simp⟩, by simp only; omega, ?_⟩
        dsimp only
        exact jw []
      · repeat' ((conv => whnf); (first | refine And.intro (by omega) (Exists.intro s[i] (And.intro (sgt hi2) ?_)) | refine jap (apE (ys := [255]) ?_) | refine jap (apB ?_) | refine k0 ?_ | refine jA fun _ => ?_ | refine jB fun _ => ?_ | refine kC (fun _ => ?_) fun _ => ?_ | refine jst ?_ | exact ⟨rfl, rfl⟩ | exact jV | fail))
        refine ⟨⟨(i + 1, l ++ [s[i]]), by simp only; omega, by simp only; rw [escN_n hi2 h0, hi.2]; simp⟩, by simp only; omega, ?_⟩
        dsimp only
        exact jw []
    · dsimp only at hge
      have e : l ++ [0, 1] = ptE bs s := by rw [hi.2, show i = s.size by omega]; simp
      repeat' ((conv => whnf); (first | refine jap (apE (ys := [0, 1]) ?_) | refine k0 ?_ | refine jA fun _ => ?_ | refine jB fun _ => ?_ | refine kC (fun _ => ?_) fun _ => ?_ | refine jst ?_ | exact ⟨rfl, rfl⟩ | exact jV | fail))
      all_goals exact ⟨by rw [← e], rfl⟩

theorem cx192 {P : Program} {X : FuncId → List Arg → List (Bool × List Cell) → List (Option (List Cell)) → Prop} {a : List Arg} {Q : List (Bool × List Cell) → List (Option (List Cell)) → Prop} (h : ∃ b vals outs, a = b ∧ D P X (.call 192 b vals outs) ∧ Q vals outs) : CallS P X 192 a Q := ⟨h⟩

set_option maxRecDepth 100000 in
theorem tx187 {bs : List UInt8} {s : ByteArray} (hb : bs.length ≤ 5000000 := by first | assumption | omega | (simp; done) | (simp; omega)) (hs : s.size ≤ 2000000 := by first | assumption | omega | (simp; done) | (simp; omega)) : T 187 [aE bs, aS s] [vE (ptE bs s)] [none, none] := by
  refine w_call md [] Tryz.func187 rfl ?_
  repeat' ((conv => whnf); (first | refine Exists.intro _ (Exists.intro (cs true (_ : List UInt8)) (And.intro rfl (And.intro ⟨Nat.le_refl _, bgb (by omega), bg (by omega)⟩ (Exists.intro _ (And.intro ape (Exists.intro _ (And.intro (Nat.zero_add _) ?_))))))) | refine k0 ?_ | refine jA fun _ => ?_ | refine jB fun _ => ?_ | refine kC (fun _ => ?_) fun _ => ?_ | refine jst ?_ | exact ⟨rfl, rfl⟩ | exact jV | fail))
  conv => whnf
  refine loopk (ι := Nat × List UInt8) (fun i => i.1 ≤ s.size ∧ i.2 = bs ++ escN s i.1) (fun i => s.size - i.1) ((0, bs)) [1] (fun i => [(5, rE 2 i.2), (6, .v false [i6 i.1])]) [none, none, some fun i => nE i.2] ?_
  refine ⟨⟨Nat.zero_le _, by simp [escN]⟩, ?_, fun ⟨i, l⟩ hi => ?_⟩
  · exact jw []
  · dsimp only at hi ⊢
    have hn := escN_len s i
    have hl : l.length ≤ 9000000 := by rw [hi.2, List.length_append]; omega
    refine ⟨fun hlt => ?_, fun hge => ?_⟩
    · dsimp only at hlt
      have hi2 : i < s.size := by omega
      by_cases h0 : s[i].toNat = 0
      · repeat' ((conv => whnf); (first | refine And.intro (by omega) (Exists.intro s[i] (And.intro (sgt hi2) ?_)) | refine jap (apE (ys := [255]) ?_) | refine jap (apB ?_) | refine k0 ?_ | refine jA fun _ => ?_ | refine jB fun _ => ?_ | refine kC (fun _ => ?_) fun _ => ?_ | refine jst ?_ | exact ⟨rfl, rfl⟩ | exact jV | fail))
        refine ⟨⟨(i + 1, l ++ [s[i]] ++ [255]), by simp only; omega, by simp only; rw [escN_y hi2 h0, hi.2]; simp⟩, by simp only; omega, ?_⟩
        dsimp only
        exact jw []
      · repeat' ((conv => whnf); (first | refine And.intro (by omega) (Exists.intro s[i] (And.intro (sgt hi2) ?_)) | refine jap (apE (ys := [255]) ?_) | refine jap (apB ?_) | refine k0 ?_ | refine jA fun _ => ?_ | refine jB fun _ => ?_ | refine kC (fun _ => ?_) fun _ => ?_ | refine jst ?_ | exact ⟨rfl, rfl⟩ | exact jV | fail))
        refine ⟨⟨(i + 1, l ++ [s[i]]), by simp only; omega, by simp only; rw [escN_n hi2 h0, hi.2]; simp⟩, by simp only; omega, ?_⟩
        dsimp only
        exact jw []
    · dsimp only at hge
      have e : l ++ [0, 1] = ptE bs s := by rw [hi.2, show i = s.size by omega]; simp
      repeat' ((conv => whnf); (first | refine jap (apE (ys := [0, 1]) ?_) | refine k0 ?_ | refine jA fun _ => ?_ | refine jB fun _ => ?_ | refine kC (fun _ => ?_) fun _ => ?_ | refine jst ?_ | exact ⟨rfl, rfl⟩ | exact jV | fail))
      all_goals exact ⟨by rw [← e], rfl⟩

theorem cx187 {P : Program} {X : FuncId → List Arg → List (Bool × List Cell) → List (Option (List Cell)) → Prop} {a : List Arg} {Q : List (Bool × List Cell) → List (Option (List Cell)) → Prop} (h : ∃ b vals outs, a = b ∧ D P X (.call 187 b vals outs) ∧ Q vals outs) : CallS P X 187 a Q := ⟨h⟩

end Go.Proofs.YtopnaijeicknoaaGreatDoor
