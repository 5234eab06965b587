/- What the law comes to: functions of the program, each with what it gives back, and the plain facts behind them. -/
import Derived.Test.YtddikflnjloagaaGreatDoorChecked
import Derived.IntWalk
import Derived.Test.YtddikflnjloagaaGreatDoorPj
namespace Go.Proofs.YtddikflnjloagaaGreatDoor

section
open Go Go.RowKit Go.IntWalk

open Enc (sz cs)

attribute [local irreducible] IntKind.wrap

/-! ### What is drawn -/

structure Cur where
  b : List UInt8
  i : Nat
  h : Int

structure CurOk (c : Cur) : Prop where
  i : c.i ≤ c.b.length
  b : c.b.length ≤ 1048576

abbrev cuC (c : Cur) : List Cell := [slE false c.b, i6 c.i, i6 c.h]

abbrev aC (c : Cur) : Arg := .own true 0 0 (cuC c)

/-- The first number of a drawing. -/
def hN (b : List UInt8) : Nat → Nat
  | 0 => 758758 + b.length
  | i + 1 => (hN b i * 137 + (b.getD i 0).toNat + 11) % 1073741824

theorem hN_le {b : List UInt8} (hb : b.length ≤ 1048576) : ∀ {i : Nat}, hN b i ≤ 1073741824
  | 0 => by simp only [hN]; omega
  | i + 1 => by simp only [hN]; omega

theorem hN_suc {b : List UInt8} {i : Nat} (h : i < b.length) : hN b (i + 1) = (hN b i * 137 + b[i].toNat + 11) % 1073741824 := by
  simp only [hN]; rw [List.getD_eq_getElem?_getD, List.getElem?_eq_getElem h]; rfl

def byH (h : Int) : Int := IntKind.i64.wrap (IntKind.i64.wrap (h * 6364136223846793005) + 1442695040888963407)

def byX (h : Int) : Nat := (BitVec.ofInt 64 (IntKind.i64.wrap ((BitVec.ofInt 64 (h.fdiv (2 ^ min 33 64)) ^^^ BitVec.ofInt 64 (h.fdiv (2 ^ min 47 64))).toNat : Nat)) &&& BitVec.ofInt 64 255).toNat

theorem byX_le (h : Int) : byX h ≤ 255 := by
  unfold byX
  rw [BitVec.toNat_and, show (BitVec.ofInt 64 255).toNat = 255 from rfl]
  exact Nat.and_le_right

def byC (c : Cur) : Nat × Cur := if c.i < c.b.length then ((byX (byH c.h) + (c.b.getD c.i 0).toNat) % 256, ⟨c.b, c.i + 1, byH c.h⟩) else (byX (byH c.h), ⟨c.b, c.i, byH c.h⟩)

theorem byC_yes {c : Cur} (h : c.i < c.b.length) : byC c = ((byX (byH c.h) + c.b[c.i].toNat) % 256, ⟨c.b, c.i + 1, byH c.h⟩) := by
  unfold byC; rw [if_pos h, List.getD_eq_getElem?_getD, List.getElem?_eq_getElem h]; rfl

theorem byC_no {c : Cur} (h : ¬ c.i < c.b.length) : byC c = (byX (byH c.h), ⟨c.b, c.i, byH c.h⟩) := by
  unfold byC; rw [if_neg h]

theorem byC_le (c : Cur) : (byC c).1 ≤ 255 := by
  unfold byC
  split
  · simp only; omega
  · exact byX_le _

theorem byC_ok {c : Cur} (h : CurOk c) : CurOk (byC c).2 := by
  have := h.i
  unfold byC
  split
  · exact ⟨by simp only; omega, h.b⟩
  · exact ⟨h.i, h.b⟩

/-- A number below `n`. -/
def blC (c : Cur) (n : Nat) : Nat × Cur :=
  if n = 0 then (0, c) else if n ≤ 256 then ((byC c).1 % n, (byC c).2) else
  (((byC c).1 * 65536 + (byC (byC c).2).1 * 256 + (byC (byC (byC c).2).2).1) % n, (byC (byC (byC c).2).2).2)

theorem blC_0 {c : Cur} : blC c 0 = (0, c) := if_pos rfl

theorem blC_s {c : Cur} {n : Nat} (h : ¬ n = 0) (h2 : n ≤ 256) : blC c n = ((byC c).1 % n, (byC c).2) := by
  unfold blC; rw [if_neg h, if_pos h2]

theorem blC_g {c : Cur} {n : Nat} (h2 : ¬ n ≤ 256) : blC c n = (((byC c).1 * 65536 + (byC (byC c).2).1 * 256 + (byC (byC (byC c).2).2).1) % n, (byC (byC (byC c).2).2).2) := by
  unfold blC; rw [if_neg (by omega), if_neg h2]

theorem blC_lt {c : Cur} {n : Nat} (h : 0 < n) : (blC c n).1 < n := by
  by_cases h2 : n ≤ 256
  · rw [blC_s (by omega) h2]; exact Nat.mod_lt _ h
  · rw [blC_g h2]; exact Nat.mod_lt _ h

theorem blC_ok {c : Cur} {n : Nat} (h : CurOk c) : CurOk (blC c n).2 := by
  by_cases h0 : n = 0
  · subst h0; rw [blC_0]; exact h
  · by_cases h2 : n ≤ 256
    · rw [blC_s h0 h2]; exact byC_ok h
    · rw [blC_g h2]; exact byC_ok (byC_ok (byC_ok h))

/-- One of a list. -/
def inC (c : Cur) (l : List Int) : Int × Cur := (l.getD (blC c l.length).1 0, (blC c l.length).2)

theorem inC_at {c : Cur} {l : List Int} (h : 0 < l.length) : inC c l = (l[(blC c l.length).1]'(blC_lt h), (blC c l.length).2) := by
  unfold inC; rw [List.getD_eq_getElem?_getD, List.getElem?_eq_getElem (blC_lt h)]; rfl

theorem inC_ok {c : Cur} {l : List Int} (h : CurOk c) : CurOk (inC c l).2 := blC_ok h

theorem inC_mem {c : Cur} {l : List Int} (h : 0 < l.length) : (inC c l).1 ∈ l := by rw [inC_at h]; exact List.getElem_mem _

def nwC (b : List UInt8) : Cur := ⟨b, 0, (hN b (min b.length 4000) : Nat)⟩

theorem nwC_ok {b : List UInt8} (h : b.length ≤ 1048576) : CurOk (nwC b) := ⟨Nat.zero_le _, h⟩

theorem and30 {n : Int} {m : Nat} (hn : n = (m : Int)) (h : m < 9223372036854775808) : IntKind.i64.wrap ((BitVec.ofInt IntKind.i64.bits n &&& BitVec.ofInt IntKind.i64.bits 1073741823).toNat : Int) = ((m % 1073741824 : Nat) : Int) := by
  subst hn; exact and64 30 (by decide) h

theorem and8 {n : Int} {m : Nat} (hn : n = (m : Int)) (h : m < 9223372036854775808) : IntKind.i64.wrap ((BitVec.ofInt IntKind.i64.bits n &&& BitVec.ofInt IntKind.i64.bits 255).toNat : Int) = ((m % 256 : Nat) : Int) := by
  subst hn; exact and64 8 (by decide) h

theorem andX {h : Int} : IntKind.i64.wrap ((BitVec.ofInt IntKind.i64.bits (IntKind.i64.wrap ((BitVec.ofInt 64 (h.fdiv (2 ^ min 33 64)) ^^^ BitVec.ofInt 64 (h.fdiv (2 ^ min 47 64))).toNat : Nat)) &&& BitVec.ofInt IntKind.i64.bits 255).toNat : Int) = ((byX h : Nat) : Int) := by
  have := byX_le h
  exact i64_in ((byX h : Nat) : Int) (by omega)

set_option maxRecDepth 100000 in
theorem tx105 {c : Cur} (hc : CurOk c := by first | assumption | omega | (simp; done) | (simp; omega)) : T 105 [aC c] [vI (byC c).1] [some (cuC (byC c).2)] := by
  refine w_call md [] Tryz.func105 rfl ?_
  have hi := hc.i
  have hb := hc.b
  have hx := byX_le (byH c.h)
  by_cases hlt : c.i < c.b.length
  · rw [byC_yes hlt]
    have hu := UInt8.toNat_lt c.b[c.i]
    repeat' ((conv => whnf); (first | refine And.intro (by decide) (Exists.intro _ (And.intro rfl ?_)) | refine Exists.intro _ (And.intro (andX (h := byH c.h)) ?_) | refine Exists.intro _ (And.intro (and8 (m := byX (byH c.h) + c.b[c.i].toNat) (by omega) (by omega)) ?_) | refine k0 ?_ | refine jA fun _ => ?_ | refine jB fun _ => ?_ | refine kC (fun _ => ?_) fun _ => ?_ | refine jst ?_ | exact ⟨rfl, rfl⟩ | exact jV | fail))
  · rw [byC_no hlt]
    repeat' ((conv => whnf); (first | refine And.intro (by decide) (Exists.intro _ (And.intro rfl ?_)) | refine Exists.intro _ (And.intro (andX (h := byH c.h)) ?_) | refine k0 ?_ | refine jA fun _ => ?_ | refine jB fun _ => ?_ | refine kC (fun _ => ?_) fun _ => ?_ | refine jst ?_ | exact ⟨rfl, rfl⟩ | exact jV | fail))

theorem cx105 {P : Program} {X : FuncId → List Arg → List (Bool × List Cell) → List (Option (List Cell)) → Prop} {a : List Arg} {Q : List (Bool × List Cell) → List (Option (List Cell)) → Prop} (h : ∃ b vals outs, a = b ∧ D P X (.call 105 b vals outs) ∧ Q vals outs) : CallS P X 105 a Q := ⟨h⟩

set_option maxRecDepth 100000 in
theorem tx72 {c : Cur} {n : Nat} (hc : CurOk c := by first | assumption | omega | (simp; done) | (simp; omega)) (hn : n ≤ 100000000 := by first | assumption | omega | (simp; done) | (simp; omega)) : T 72 [aC c, aI n] [vI (blC c n).1] [some (cuC (blC c n).2), none] := by
  refine w_call md [] Tryz.func72 rfl ?_
  have h1 := byC_ok hc
  have h2 := byC_ok h1
  have h3 := byC_ok h2
  have l1 := byC_le c
  have l2 := byC_le (byC c).2
  have l3 := byC_le (byC (byC c).2).2
  by_cases h0 : n = 0
  · subst h0
    rw [blC_0]
    repeat' ((conv => whnf); (first | refine k0 ?_ | refine jA fun _ => ?_ | refine jB fun _ => ?_ | refine kC (fun _ => ?_) fun _ => ?_ | (apply cx105; refine kl tx105 ?_) | refine jst ?_ | exact ⟨rfl, rfl⟩ | exact jV | fail))
  · by_cases hs : n ≤ 256
    · rw [blC_s h0 hs]
      repeat' ((conv => whnf); (first | (apply cx105; refine kl (tx105 (c := c)) ?_) | refine And.intro (by omega) (Exists.intro (((byC c).1 % n : Nat) : Int) (And.intro (Int.tmod_eq_emod_of_nonneg (by omega)) ?_)) | refine k0 ?_ | refine jA fun _ => ?_ | refine jB fun _ => ?_ | refine kC (fun _ => ?_) fun _ => ?_ | refine jst ?_ | exact ⟨rfl, rfl⟩ | exact jV | fail))
    · rw [blC_g hs]
      repeat' ((conv => whnf); (first | (apply cx105; refine kl (tx105 (c := c)) ?_) | (apply cx105; refine kl (tx105 (c := (byC c).2)) ?_) | (apply cx105; refine kl (tx105 (c := (byC (byC c).2).2)) ?_) | refine And.intro (by omega) (Exists.intro ((((byC c).1 * 65536 + (byC (byC c).2).1 * 256 + (byC (byC (byC c).2).2).1) % n : Nat) : Int) (And.intro (Int.tmod_eq_emod_of_nonneg (by omega)) ?_)) | refine k0 ?_ | refine jA fun _ => ?_ | refine jB fun _ => ?_ | refine kC (fun _ => ?_) fun _ => ?_ | refine jst ?_ | exact ⟨rfl, rfl⟩ | exact jV | fail))

theorem cx72 {P : Program} {X : FuncId → List Arg → List (Bool × List Cell) → List (Option (List Cell)) → Prop} {a : List Arg} {Q : List (Bool × List Cell) → List (Option (List Cell)) → Prop} (h : ∃ b vals outs, a = b ∧ D P X (.call 72 b vals outs) ∧ Q vals outs) : CallS P X 72 a Q := ⟨h⟩

set_option maxRecDepth 100000 in
theorem tx71 {c : Cur} {n : Nat} (hc : CurOk c := by first | assumption | omega | (simp; done) | (simp; omega)) (hn : n ≤ 100000000 := by first | assumption | omega | (simp; done) | (simp; omega)) : T 71 [aC c, aI n] [vB (decide ((blC c n).1 = 0))] [some (cuC (blC c n).2), none] := by
  refine w_call md [] Tryz.func71 rfl ?_
  repeat' ((conv => whnf); (first | (apply cx72; refine kl (tx72 (c := c) (n := n)) ?_) | refine k0 ?_ | refine jA fun _ => ?_ | refine jB fun _ => ?_ | refine kC (fun _ => ?_) fun _ => ?_ | refine jst ?_ | exact ⟨rfl, rfl⟩ | exact jV | fail))
  all_goals first | exact ⟨by rw [decide_eq_true (by omega)], rfl⟩ | exact ⟨by rw [decide_eq_false (by omega)], rfl⟩

theorem cx71 {P : Program} {X : FuncId → List Arg → List (Bool × List Cell) → List (Option (List Cell)) → Prop} {a : List Arg} {Q : List (Bool × List Cell) → List (Option (List Cell)) → Prop} (h : ∃ b vals outs, a = b ∧ D P X (.call 71 b vals outs) ∧ Q vals outs) : CallS P X 71 a Q := ⟨h⟩

set_option maxRecDepth 100000 in
theorem tx66 {c : Cur} {l : List Int} (hc : CurOk c := by first | assumption | omega | (simp; done) | (simp; omega)) (hl : 0 < l.length ∧ l.length ≤ 1000 := by first | assumption | omega | (simp; done) | (simp; omega)) : T 66 [aC c, aO l] [vI (inC c l).1] [some (cuC (inC c l).2), some (cs true l)] := by
  refine w_call md [] Tryz.func66 rfl ?_
  have hb := blC_lt (c := c) hl.1
  rw [inC_at hl.1]
  repeat' ((conv => whnf); (first | (apply cx72; refine kl (tx72 (c := c) (n := l.length)) ?_) | refine k0 ?_ | refine jA fun _ => ?_ | refine jB fun _ => ?_ | refine kC (fun _ => ?_) fun _ => ?_ | refine jst ?_ | exact ⟨rfl, rfl⟩ | exact jV | fail))

theorem cx66 {P : Program} {X : FuncId → List Arg → List (Bool × List Cell) → List (Option (List Cell)) → Prop} {a : List Arg} {Q : List (Bool × List Cell) → List (Option (List Cell)) → Prop} (h : ∃ b vals outs, a = b ∧ D P X (.call 66 b vals outs) ∧ Q vals outs) : CallS P X 66 a Q := ⟨h⟩

attribute [local irreducible] byC blC inC

set_option maxRecDepth 100000 in
theorem tx34 {b : List UInt8} (hb : b.length ≤ 1048576 := by first | assumption | omega | (simp; done) | (simp; omega)) : T 34 [aE b] [(false, [.op (cuC (nwC b))])] [none] := by
  refine w_call md [] Tryz.func34 rfl ?_
  repeat' ((conv => whnf); (first | refine k0 ?_ | refine jA fun _ => ?_ | refine jB fun _ => ?_ | refine kC (fun _ => ?_) fun _ => ?_ | refine jst ?_ | exact ⟨rfl, rfl⟩ | exact jV | fail))
  conv => whnf
  refine loopk (ι := Nat) (fun i => i ≤ min b.length 4000) (fun i => min b.length 4000 - i) (0) [0] (fun i => [(3, .v false [i6 (hN b i : Nat)]), (4, .v false [i6 i])]) [none] ?_
  refine ⟨by omega, ?_, fun i hi => ?_⟩
  · exact jw []
  · have hh := hN_le hb (i := i)
    repeat' ((conv => whnf); (first | refine k0 ?_ | refine jst ?_ | exact ⟨rfl, rfl⟩ | exact jV | fail))
    conv => whnf
    refine ⟨fun hlt => ?_, fun hge => ?_⟩
    · repeat' ((conv => whnf); (first | refine k0 ?_ | refine jst ?_ | exact ⟨rfl, rfl⟩ | exact jV | fail))
      conv => whnf
      refine ⟨fun h2 => ?_, fun h2 => ?_⟩
      · have hi2 : i < b.length := by omega
        have hs := hN_suc hi2
        have hu := UInt8.toNat_lt b[i]
        repeat' ((conv => whnf); (first | refine Exists.intro _ (And.intro (and30 (m := hN b i * 137 + b[i].toNat + 11) (by omega) (by omega)) ?_) | refine k0 ?_ | refine jA fun _ => ?_ | refine jB fun _ => ?_ | refine kC (fun _ => ?_) fun _ => ?_ | refine jst ?_ | exact ⟨rfl, rfl⟩ | exact jV | fail))
        refine ⟨⟨i + 1, by omega⟩, by simp only; omega, ?_⟩
        exact w_autoX [] (by (conv => whnf); exact And.intro (by kernel_rfl) (And.intro (by kernel_rfl) (by repeat' (first | (with_reducible exact rfl) | ((conv => whnf); first | exact trivial | exact tvi (by rw [hs]) | exact rfl | exact tvi (by first | omega | (dsimp only; omega) | (simp; done)) | exact tvr (by first | omega | (dsimp only; omega) | (simp; done) | (simp; omega)) | exact ⟨rfl, clo_i, by first | rfl | rw [List.take_length] | assumption⟩ | refine And.intro ?_ ?_)))))
      · obtain rfl : i = min b.length 4000 := by omega
        repeat' ((conv => whnf); (first | refine And.intro ⟨rfl, rfl, rfl⟩ ?_ | refine k0 ?_ | refine jA fun _ => ?_ | refine jB fun _ => ?_ | refine kC (fun _ => ?_) fun _ => ?_ | refine jst ?_ | exact ⟨rfl, rfl⟩ | exact jV | fail))
    · obtain rfl : i = min b.length 4000 := by omega
      repeat' ((conv => whnf); (first | refine And.intro ⟨rfl, rfl, rfl⟩ ?_ | refine k0 ?_ | refine jA fun _ => ?_ | refine jB fun _ => ?_ | refine kC (fun _ => ?_) fun _ => ?_ | refine jst ?_ | exact ⟨rfl, rfl⟩ | exact jV | fail))

theorem cx34 {P : Program} {X : FuncId → List Arg → List (Bool × List Cell) → List (Option (List Cell)) → Prop} {a : List Arg} {Q : List (Bool × List Cell) → List (Option (List Cell)) → Prop} (h : ∃ b vals outs, a = b ∧ D P X (.call 34 b vals outs) ∧ Q vals outs) : CallS P X 34 a Q := ⟨h⟩
end

section
open Go Go.RowKit Go.IntWalk

open Enc (sz cs)

attribute [local irreducible] IntKind.wrap

/-! ### Tables that are drawn, as they are -/

abbrev onC (c : Cur) (n : Nat) : Bool × Cur := (decide ((blC c n).1 = 0), (blC c n).2)

def sIC (c : Cur) (l : List ByteArray) : ByteArray × Cur := (l.getD (blC c l.length).1 ⟨#[]⟩, (blC c l.length).2)

theorem sIC_at {c : Cur} {l : List ByteArray} (h : 0 < l.length) : sIC c l = (l[(blC c l.length).1]'(blC_lt h), (blC c l.length).2) := by
  unfold sIC; rw [List.getD_eq_getElem?_getD, List.getElem?_eq_getElem (blC_lt h)]; rfl

theorem sIC_ok {c : Cur} {l : List ByteArray} (h : CurOk c) : CurOk (sIC c l).2 := blC_ok h

theorem sIC_mem {c : Cur} {l : List ByteArray} (h : 0 < l.length) : (sIC c l).1 ∈ l := by rw [sIC_at h]; exact List.getElem_mem _

/-- One or two parts. -/
def p2C (c : Cur) (n : Nat) : List By × Cur :=
  if 1 < n then
    if (onC (onC (blC c n).2 2).2 3).1 = true then
      ([⟨(blC c n).1, (onC (blC c n).2 2).1⟩, ⟨(((blC c n).1 + 1) % n : Nat), (onC (onC (onC (blC c n).2 2).2 3).2 2).1⟩], (onC (onC (onC (blC c n).2 2).2 3).2 2).2)
    else ([⟨(blC c n).1, (onC (blC c n).2 2).1⟩], (onC (onC (blC c n).2 2).2 3).2)
  else ([⟨(blC c n).1, (onC (blC c n).2 2).1⟩], (onC (blC c n).2 2).2)

theorem p2C_ok {c : Cur} {n : Nat} (h : CurOk c) : CurOk (p2C c n).2 := by
  unfold p2C
  split
  · split
    · exact blC_ok (blC_ok (blC_ok (blC_ok h)))
    · exact blC_ok (blC_ok (blC_ok h))
  · exact blC_ok (blC_ok h)

theorem p2C_len {c : Cur} {n : Nat} : (p2C c n).1.length ≤ 2 := by
  unfold p2C
  split
  · split <;> simp
  · simp

def nmC : Nat → ByteArray
  | 0 => ⟨#[97]⟩
  | 1 => ⟨#[98]⟩
  | _ => ⟨#[99]⟩

/-- A column. -/
def clS (c : Cur) (i : Nat) : Cl × Cur := (⟨nmC i, ((1 + (blC c 4).1 : Nat) : Int), (onC (blC c 4).2 2).1⟩, (onC (blC c 4).2 2).2)

/-- Columns, from the i-th one on. -/
def csR : Nat → Nat → List Cl → Cur → List Cl × Cur
  | 0, _, l, c => (l, c)
  | f + 1, i, l, c => if i < 1 + (blC c 3).1 ∧ i < 3 then csR f (i + 1) (l ++ [(clS (blC c 3).2 i).1]) (clS (blC c 3).2 i).2 else (l, (blC c 3).2)

theorem csR_ok : ∀ {f i : Nat} {l : List Cl} {c : Cur}, CurOk c → CurOk (csR f i l c).2
  | 0, _, _, _, h => h
  | f + 1, i, l, c, h => by
    unfold csR
    split
    · exact csR_ok (blC_ok (blC_ok (blC_ok h)))
    · exact blC_ok h

theorem csR_len : ∀ {f i : Nat} {l : List Cl} {c : Cur}, l.length ≤ (csR f i l c).1.length ∧ (csR f i l c).1.length ≤ l.length + f
  | 0, _, _, _ => ⟨Nat.le_refl _, Nat.le_refl _⟩
  | f + 1, i, l, c => by
    unfold csR
    split
    · have := csR_len (f := f) (i := i + 1) (l := l ++ [(clS (blC c 3).2 i).1]) (c := (clS (blC c 3).2 i).2)
      simp only [List.length_append, List.length_cons, List.length_nil] at this
      omega
    · exact ⟨Nat.le_refl _, Nat.le_add_right _ _⟩

/-- The parts of the key. -/
def pmC (c : Cur) (b : Bool) : List By × Cur :=
  if b = false then
    if (onC (onC c 3).2 2).1 = true then ([⟨0, (onC c 3).1⟩, ⟨1, (onC (onC (onC c 3).2 2).2 2).1⟩], (onC (onC (onC c 3).2 2).2 2).2)
    else ([⟨0, (onC c 3).1⟩], (onC (onC c 3).2 2).2)
  else ([⟨0, (onC c 3).1⟩], (onC c 3).2)

theorem pmC_ok {c : Cur} {b : Bool} (h : CurOk c) : CurOk (pmC c b).2 := by
  unfold pmC
  split
  · split
    · exact blC_ok (blC_ok (blC_ok h))
    · exact blC_ok (blC_ok h)
  · exact blC_ok h

theorem pmC_len {c : Cur} {b : Bool} : (pmC c b).1.length ≤ 2 := by
  unfold pmC
  split
  · split <;> simp
  · simp

/-- An index. -/
def ixS (c : Cur) (i n : Nat) : Ix × Cur :=
  (⟨(sIC c [⟨#[117]⟩, ⟨#[118]⟩]).1 ++ nmC i, (onC (sIC c [⟨#[117]⟩, ⟨#[118]⟩]).2 2).1, (p2C (onC (sIC c [⟨#[117]⟩, ⟨#[118]⟩]).2 2).2 n).1⟩, (p2C (onC (sIC c [⟨#[117]⟩, ⟨#[118]⟩]).2 2).2 n).2)

def ixR (n : Nat) : Nat → List Ix → Cur → List Ix × Cur
  | 0, l, c => (l, c)
  | i + 1, l, c => ixR n i (l ++ [(ixS c (i + 1) n).1]) (ixS c (i + 1) n).2

theorem ixR_ok {n : Nat} : ∀ {i : Nat} {l : List Ix} {c : Cur}, CurOk c → CurOk (ixR n i l c).2
  | 0, _, _, h => h
  | i + 1, _, _, h => ixR_ok (i := i) (p2C_ok (blC_ok (sIC_ok h)))

theorem ixR_len {n : Nat} : ∀ {i : Nat} {l : List Ix} {c : Cur}, (ixR n i l c).1.length = l.length + i
  | 0, _, _ => rfl
  | i + 1, l, c => by
    rw [show ixR n (i + 1) l c = ixR n i (l ++ [(ixS c (i + 1) n).1]) (ixS c (i + 1) n).2 from rfl, ixR_len (i := i)]
    simp; omega

/-- A table's columns, then its key, then its indexes. -/
def dcC (c : Cur) : List Cl × Cur := csR 4 0 [⟨⟨#[105, 100]⟩, (inC c [1, 1, 3, 2]).1, false⟩] (inC c [1, 1, 3, 2]).2

def dpC (c : Cur) : List By × Cur := pmC (dcC c).2 ((dcC c).1.getD 1 ⟨⟨#[]⟩, 0, false⟩).null

def dxC (c : Cur) : List Ix × Cur := ixR (dcC c).1.length (blC (dpC c).2 3).1 [] (blC (dpC c).2 3).2

def dfD (c : Cur) (name : ByteArray) : Df × Cur := (⟨name, (dcC c).1, (dpC c).1, (dxC c).1⟩, (dxC c).2)

theorem dcC_ok {c : Cur} (h : CurOk c) : CurOk (dcC c).2 := csR_ok (inC_ok h)

theorem dpC_ok {c : Cur} (h : CurOk c) : CurOk (dpC c).2 := pmC_ok (dcC_ok h)

theorem dxC_ok {c : Cur} (h : CurOk c) : CurOk (dxC c).2 := ixR_ok (blC_ok (dpC_ok h))

theorem dfD_ok {c : Cur} {name : ByteArray} (h : CurOk c) : CurOk (dfD c name).2 := dxC_ok h

theorem csR_1 {f : Nat} {l : List Cl} {c : Cur} : csR (f + 1) 0 l c = csR f 1 (l ++ [(clS (blC c 3).2 0).1]) (clS (blC c 3).2 0).2 := by
  rw [csR]
  exact if_pos ⟨by omega, by omega⟩

attribute [local irreducible] csR blC inC sIC

theorem dcC_len {c : Cur} : 2 ≤ (dcC c).1.length ∧ (dcC c).1.length ≤ 5 := by
  have e : dcC c = csR 3 1 ([⟨⟨#[105, 100]⟩, (inC c [1, 1, 3, 2]).1, false⟩] ++ [(clS (blC (inC c [1, 1, 3, 2]).2 3).2 0).1]) (clS (blC (inC c [1, 1, 3, 2]).2 3).2 0).2 := by
    unfold dcC
    exact csR_1 (f := 3)
  rw [e]
  have h := csR_len (f := 3) (i := 1) (l := [⟨⟨#[105, 100]⟩, (inC c [1, 1, 3, 2]).1, false⟩] ++ [(clS (blC (inC c [1, 1, 3, 2]).2 3).2 0).1]) (c := (clS (blC (inC c [1, 1, 3, 2]).2 3).2 0).2)
  simp only [List.length_append, List.length_cons, List.length_nil] at h
  omega

theorem dpC_len {c : Cur} : (dpC c).1.length ≤ 2 := pmC_len

theorem dxC_len {c : Cur} : (dxC c).1.length ≤ 2 := by
  unfold dxC
  rw [ixR_len]
  have := blC_lt (c := (dpC c).2) (n := 3) (by decide)
  simp; omega

/-- One or two tables. -/
def ldC (c : Cur) : List Df × Cur :=
  if (onC (dfD c ⟨#[116]⟩).2 3).1 = true then ([(dfD c ⟨#[116]⟩).1, (dfD (onC (dfD c ⟨#[116]⟩).2 3).2 ⟨#[117]⟩).1], (dfD (onC (dfD c ⟨#[116]⟩).2 3).2 ⟨#[117]⟩).2)
  else ([(dfD c ⟨#[116]⟩).1], (onC (dfD c ⟨#[116]⟩).2 3).2)

theorem ldC_ok {c : Cur} (h : CurOk c) : CurOk (ldC c).2 := by
  unfold ldC
  split
  · exact dfD_ok (name := ⟨#[117]⟩) (blC_ok (dfD_ok (name := ⟨#[116]⟩) h))
  · exact blC_ok (dfD_ok (name := ⟨#[116]⟩) h)

/-- A value of a column that comes again. -/
def shB (c : Cur) (t : Int) : Vl × Cur :=
  if t = 3 then (⟨t, 0, (sIC c [⟨#[]⟩, ⟨#[97]⟩, ⟨#[98]⟩, ⟨#[97, 98]⟩, ⟨#[0]⟩]).1⟩, (sIC c [⟨#[]⟩, ⟨#[97]⟩, ⟨#[98]⟩, ⟨#[97, 98]⟩, ⟨#[0]⟩]).2)
  else if t = 4 then (⟨t, (blC c 2).1, ⟨#[]⟩⟩, (blC c 2).2)
  else (⟨t, (inC c [0, 1, 2, 3, 4, 5, -1]).1, ⟨#[]⟩⟩, (inC c [0, 1, 2, 3, 4, 5, -1]).2)

def shC (c : Cur) (x : Cl) : Vl × Cur :=
  if x.null = true then (if (onC c 4).1 = true then (⟨0, 0, ⟨#[]⟩⟩, (onC c 4).2) else shB (onC c 4).2 x.type) else shB c x.type

theorem shB_ok {c : Cur} {t : Int} (h : CurOk c) : CurOk (shB c t).2 := by
  unfold shB
  split
  · exact sIC_ok h
  · split
    · exact blC_ok h
    · exact inC_ok h

theorem shC_ok {c : Cur} {x : Cl} (h : CurOk c) : CurOk (shC c x).2 := by
  unfold shC
  split
  · split
    · exact blC_ok h
    · exact shB_ok (blC_ok h)
  · exact shB_ok h

theorem shB_s {c : Cur} {t : Int} : (shB c t).1.s.size ≤ 2 := by
  unfold shB
  split
  · have h := sIC_mem (c := c) (l := [⟨#[]⟩, ⟨#[97]⟩, ⟨#[98]⟩, ⟨#[97, 98]⟩, ⟨#[0]⟩]) (by simp)
    simp only [List.mem_cons, List.not_mem_nil, or_false] at h
    rcases h with h | h | h | h | h <;> (simp only; rw [h]; decide)
  · split <;> exact Nat.zero_le _

theorem shC_s {c : Cur} {x : Cl} : (shC c x).1.s.size ≤ 2 := by
  unfold shC
  split
  · split
    · exact Nat.zero_le _
    · exact shB_s
  · exact shB_s

/-- A row: the values of the first columns. -/
def rwC (c : Cur) (l : List Cl) : Nat → List Vl × Cur
  | 0 => ([], c)
  | i + 1 => ((rwC c l i).1 ++ [(shC (rwC c l i).2 (l.getD i ⟨⟨#[]⟩, 0, false⟩)).1], (shC (rwC c l i).2 (l.getD i ⟨⟨#[]⟩, 0, false⟩)).2)

theorem rwC_ok {c : Cur} {l : List Cl} (h : CurOk c) : ∀ {i : Nat}, CurOk (rwC c l i).2
  | 0 => h
  | _ + 1 => shC_ok (rwC_ok h)

theorem rwC_len {c : Cur} {l : List Cl} : ∀ {i : Nat}, (rwC c l i).1.length = i
  | 0 => rfl
  | i + 1 => by
    show ((rwC c l i).1 ++ [_]).length = _
    rw [List.length_append, rwC_len]; rfl

def szC (b : List UInt8) (most : Nat) : Nat := min (3 + b.length / 12) most

theorem szC_b {b : List UInt8} {most : Nat} (h : 0 < most) : 0 < szC b most ∧ szC b most ≤ most := by unfold szC; omega
end

section
open Go Go.RowKit Go.IntWalk

open Enc (sz cs)

attribute [local irreducible] IntKind.wrap

/-! ### Copies of tables -/

attribute [local irreducible] pkR ppN bOf fbN cdN rpN atN tkN moS moI

theorem zTab_b {t : List (List Vl)} (h : zTab t ≤ 2000000) : t.length ≤ 2000000 ∧ ∀ j (hj : j < t.length), t[j].length ≤ 2000000 := by
  have e3 : zTab t = t.length + cnt zRow t := rfl
  refine ⟨by omega, fun j hj => ?_⟩
  have h4 := cnt_mem (c := zRow) (List.getElem_mem hj)
  have e4 : zRow t[j] = t[j].length + cnt zVl t[j] := rfl
  omega

theorem zMdb_t {m : Tbs} (h : zMdb m ≤ 2000000) {k : Nat} (hk : k < m.length) : zTab m[k] ≤ 2000000 := by
  have h3 := cnt_mem (c := zTab) (List.getElem_mem hk)
  have h0 : zMdb m = m.length + cnt zTab m := rfl
  omega

set_option maxHeartbeats 2000000 in
set_option maxRecDepth 100000 in
theorem tx91 {t : List (List Vl)} (ht : zTab t ≤ 2000000 := by first | assumption | omega | (simp; done) | (simp; omega)) : T 91 [aE t] [vE t] [none] := by
  refine w_call md [] Tryz.func91 rfl ?_
  obtain ⟨z1, z2⟩ := zTab_b ht
  repeat' ((conv => whnf); (first | refine k0 ?_ | refine jA fun _ => ?_ | refine jB fun _ => ?_ | refine kC (fun _ => ?_) fun _ => ?_ | refine jst ?_ | exact ⟨rfl, rfl⟩ | exact jV | fail))
  conv => whnf
  refine loopk (ι := Nat) (fun i => i ≤ t.length) (fun i => t.length - i) (0) [0] (fun i => [(3, .v false [.ref 1 0 i 1]), (4, .v false [i6 i])]) [none, some fun i => nE (t.take i)] ?_
  refine ⟨by omega, ?_, fun i hi => ?_⟩
  · exact jw []
  · repeat' ((conv => whnf); (first | refine k0 ?_ | refine jst ?_ | exact ⟨rfl, rfl⟩ | exact jV | fail))
    conv => whnf
    refine ⟨fun hlt => ?_, fun hge => ?_⟩
    · have hi2 : i < t.length := by omega
      have hz := z2 i hi2
      repeat' ((conv => whnf); (first | refine Exists.intro _ (Exists.intro (cs true (_ : List Vl)) (And.intro rfl (And.intro ⟨Nat.le_refl _, bgb (by omega), bg (by omega)⟩ (Exists.intro _ (And.intro ape (Exists.intro _ (And.intro (Nat.zero_add _) ?_))))))) | refine Exists.intro _ (Exists.intro _ (And.intro rfl (And.intro ⟨by simp <;> omega, bgb (by omega), bg (by omega)⟩ (apR (xs := t.take i) ?_)))) | refine k0 ?_ | refine jA fun _ => ?_ | refine jB fun _ => ?_ | refine kC (fun _ => ?_) fun _ => ?_ | refine jst ?_ | exact ⟨rfl, rfl⟩ | exact jV | fail))
      refine ⟨⟨i + 1, by omega⟩, by simp only; omega, (w_inE 5 3 (cs true (t.take i)) t[i] [] t[i].length 3 (tk1 hi2 rfl)).trans ?_⟩
      exact jw []
    · obtain rfl : i = t.length := by omega
      repeat' ((conv => whnf); (first | refine k0 ?_ | refine jA fun _ => ?_ | refine jB fun _ => ?_ | refine kC (fun _ => ?_) fun _ => ?_ | refine jst ?_ | exact ⟨rfl, rfl⟩ | exact jV | fail))
      exact ⟨by rw [List.take_length]; rfl, rfl⟩

theorem cx91 {P : Program} {X : FuncId → List Arg → List (Bool × List Cell) → List (Option (List Cell)) → Prop} {a : List Arg} {Q : List (Bool × List Cell) → List (Option (List Cell)) → Prop} (h : ∃ b vals outs, a = b ∧ D P X (.call 91 b vals outs) ∧ Q vals outs) : CallS P X 91 a Q := ⟨h⟩

set_option maxHeartbeats 2000000 in
set_option maxRecDepth 100000 in
theorem tx51 {m : Tbs} (hm : zMdb m ≤ 2000000 := by first | assumption | omega | (simp; done) | (simp; omega)) : T 51 [.val true [slE false m]] [(true, [slE true m])] [none] := by
  refine w_call md [] Tryz.func51 rfl ?_
  obtain ⟨z1, z2⟩ := zMdb_b hm
  repeat' ((conv => whnf); (first | refine k0 ?_ | refine jA fun _ => ?_ | refine jB fun _ => ?_ | refine kC (fun _ => ?_) fun _ => ?_ | (apply cx91; refine kl tx91 ?_) | refine jst ?_ | exact ⟨rfl, rfl⟩ | exact jV | fail))
  conv => whnf
  refine loopk (ι := Nat) (fun i => i ≤ m.length) (fun i => m.length - i) (0) [1, 2] (fun i => [(3, .v false [.ptr 3 0]), (4, .v false [i6 i])]) [none, none, none, some fun i => some (true, [.ref 4 0 i 1]), some fun i => nE (m.take i)] ?_
  refine ⟨by omega, ?_, fun i hi => ?_⟩
  · exact (w_nilN 3 1 [] []).trans (jw [3])
  · repeat' ((conv => whnf); (first | refine k0 ?_ | (apply cx91; refine kl tx91 ?_) | refine jst ?_ | exact ⟨rfl, rfl⟩ | exact jV | fail))
    conv => whnf
    refine ⟨fun hlt => ?_, fun hge => ?_⟩
    · have hi2 : i < m.length := by omega
      have hz := zMdb_t hm hi2
      repeat' ((conv => whnf); (first | (apply cx91; refine kl (tx91 (t := m[i])) ?_) | refine Exists.intro _ (Exists.intro _ (And.intro rfl (And.intro ⟨by simp <;> omega, bgb (by omega), bg (by omega)⟩ (apR (xs := m.take i) ?_)))) | refine k0 ?_ | refine jA fun _ => ?_ | refine jB fun _ => ?_ | refine kC (fun _ => ?_) fun _ => ?_ | (apply cx91; refine kl tx91 ?_) | refine jst ?_ | exact ⟨rfl, rfl⟩ | exact jV | fail))
      refine ⟨⟨i + 1, by omega⟩, by simp only; omega, (w_inE 181 133 (cs true (m.take i)) m[i] [] m[i].length 1 (tk1 hi2 rfl)).trans ?_⟩
      exact jw [3]
    · obtain rfl : i = m.length := by omega
      repeat' ((conv => whnf); (first | refine k0 ?_ | refine jA fun _ => ?_ | refine jB fun _ => ?_ | refine kC (fun _ => ?_) fun _ => ?_ | (apply cx91; refine kl tx91 ?_) | refine jst ?_ | exact ⟨rfl, rfl⟩ | exact jV | fail))
      exact ⟨by rw [List.take_length]; rfl, rfl⟩

theorem cx51 {P : Program} {X : FuncId → List Arg → List (Bool × List Cell) → List (Option (List Cell)) → Prop} {a : List Arg} {Q : List (Bool × List Cell) → List (Option (List Cell)) → Prop} (h : ∃ b vals outs, a = b ∧ D P X (.call 51 b vals outs) ∧ Q vals outs) : CallS P X 51 a Q := ⟨h⟩

set_option maxHeartbeats 2000000 in
set_option maxRecDepth 100000 in
theorem tx46 {m : Tbs} (hm : zMdb m ≤ 2000000 := by first | assumption | omega | (simp; done) | (simp; omega)) : T 46 [.val true [slE false m]] [(true, [slE true m])] [none] := by
  refine w_call md [[1]] Tryz.func46 rfl ?_
  obtain ⟨z1, z2⟩ := zMdb_b hm
  repeat' ((conv => whnf); (first | refine k0 ?_ | refine jA fun _ => ?_ | refine jB fun _ => ?_ | refine kC (fun _ => ?_) fun _ => ?_ | (apply cx44; refine kl tx44 ?_) | refine jst ?_ | exact ⟨rfl, rfl⟩ | exact jV | fail))
  conv => whnf
  refine loopk (ι := Nat) (fun i => i ≤ m.length) (fun i => m.length - i) (0) [2, 3, 10, 11] (fun i => [(12, .v false [i6 i])]) [none, none, none, some fun i => some (true, [.ref 4 0 i 1]), some fun i => nE (m.take i)] ?_
  refine ⟨by omega, ?_, fun u hi => ?_⟩
  · exact (w_nilN 3 1 [] []).trans (jw [3])
  · repeat' ((conv => whnf); (first | refine k0 ?_ | (apply cx44; refine kl tx44 ?_) | refine jst ?_ | exact ⟨rfl, rfl⟩ | exact jV | fail))
    conv => whnf
    refine ⟨fun hlt => ?_, fun hge => ?_⟩
    · have hi2 : u < m.length := by omega
      obtain ⟨z3, z4⟩ := z2 u hi2
      repeat' ((conv => whnf); (first | refine k0 ?_ | refine jA fun _ => ?_ | refine jB fun _ => ?_ | refine kC (fun _ => ?_) fun _ => ?_ | (apply cx44; refine kl tx44 ?_) | refine jst ?_ | exact ⟨rfl, rfl⟩ | exact jV | fail))
      conv => whnf
      refine loopk (ι := Nat) (fun i => i ≤ m[u].length) (fun i => m[u].length - i) (0) [2, 3, 6, 10, 11, 12, 17, 18] (fun i => [(19, .v false [i6 i])]) [none, none, none, some fun _ => some (true, [.ref 4 0 u 1]), some fun _ => nE (m.take u), none, some fun i => some (true, [.ref 7 0 i 1]), some fun i => nE (m[u].take i)] ?_
      refine ⟨by omega, ?_, fun i hi => ?_⟩
      · exact (w_nilN 6 1 [] []).trans (jw [3, 6])
      · repeat' ((conv => whnf); (first | refine k0 ?_ | (apply cx44; refine kl tx44 ?_) | refine jst ?_ | exact ⟨rfl, rfl⟩ | exact jV | fail))
        conv => whnf
        refine ⟨fun hlt2 => ?_, fun hge2 => ?_⟩
        · have hi3 : i < m[u].length := by omega
          have hz := z4 i hi3
          repeat' ((conv => whnf); (first | (apply cx44; refine kl (tx44 (r := m[u][i])) ?_) | refine Exists.intro _ (Exists.intro _ (And.intro rfl (And.intro ⟨by simp <;> omega, bgb (by omega), bg (by omega)⟩ (apR (xs := m[u].take i) ?_)))) | refine k0 ?_ | refine jA fun _ => ?_ | refine jB fun _ => ?_ | refine kC (fun _ => ?_) fun _ => ?_ | (apply cx44; refine kl tx44 ?_) | refine jst ?_ | exact ⟨rfl, rfl⟩ | exact jV | fail))
          refine ⟨⟨i + 1, by omega⟩, by simp only; omega, (w_inE 88 56 (cs true (m[u].take i)) m[u][i] [] m[u][i].length 3 (tk1 hi3 rfl)).trans ?_⟩
          exact jw [3, 6]
        · obtain rfl : i = m[u].length := by omega
          repeat' ((conv => whnf); (first | refine Exists.intro _ (Exists.intro _ (And.intro rfl (And.intro ⟨by simp <;> omega, bgb (by omega), bg (by omega)⟩ (apR (xs := m.take u) ?_)))) | refine k0 ?_ | refine jA fun _ => ?_ | refine jB fun _ => ?_ | refine kC (fun _ => ?_) fun _ => ?_ | (apply cx44; refine kl tx44 ?_) | refine jst ?_ | exact ⟨rfl, rfl⟩ | exact jV | fail))
          refine ⟨⟨u + 1, by omega⟩, by simp only; omega, (w_inE 9 7 (cs true (m.take u)) (m[u].take m[u].length) [] m[u].length 1 (cs1 := cs true (m.take (u + 1))) (by rw [List.take_length]; exact tk1 hi2 rfl)).trans ?_⟩
          exact jw [3]
    · obtain rfl : u = m.length := by omega
      repeat' ((conv => whnf); (first | refine k0 ?_ | refine jA fun _ => ?_ | refine jB fun _ => ?_ | refine kC (fun _ => ?_) fun _ => ?_ | (apply cx44; refine kl tx44 ?_) | refine jst ?_ | exact ⟨rfl, rfl⟩ | exact jV | fail))
      exact ⟨by rw [List.take_length]; rfl, rfl⟩

theorem cx46 {P : Program} {X : FuncId → List Arg → List (Bool × List Cell) → List (Option (List Cell)) → Prop} {a : List Arg} {Q : List (Bool × List Cell) → List (Option (List Cell)) → Prop} (h : ∃ b vals outs, a = b ∧ D P X (.call 46 b vals outs) ∧ Q vals outs) : CallS P X 46 a Q := ⟨h⟩
end

section
open Go Go.RowKit Go.IntWalk

open Enc (sz cs)

attribute [local irreducible] IntKind.wrap

/-! ### Operations by themselves -/

attribute [local irreducible] pkR ppN bOf fbN cdN rpN atN tkN moS moI

abbrev RvB (r : List Vl) : Prop := r.length ≤ 2000000 ∧ ∀ i (h : i < r.length), r[i].s.size ≤ 2000000

theorem RvB.of {r : List Vl} (h : zRow r ≤ 2000000) : RvB r := by
  have e4 : zRow r = r.length + cnt zVl r := rfl
  refine ⟨by omega, fun i hi => ?_⟩
  have h5 := cnt_mem (c := zVl) (List.getElem_mem hi)
  have e5 : zVl r[i] = r[i].s.size := rfl
  omega

theorem ofT_40 {d : Df} {k : Nat} {o : Opn} (h : o.kind = 4) (h2 : roOk (ppN d) o.row = false) : ofT d k o = 3 := by
  unfold ofT; rw [if_pos h, if_neg (by rw [h2]; decide)]

theorem ofT_41 {d : Df} {k : Nat} {o : Opn} (h : o.kind = 4) (h2 : roOk (ppN d) o.row = true) : ofT d k o = 0 := by
  unfold ofT; rw [if_pos h, if_pos h2]

theorem ofT_n0 {d : Df} {k : Nat} {o : Opn} (h : ¬ o.kind = 4) (h2 : roOk (rpN d) o.row = false) : ofT d k o = 3 := by
  unfold ofT; rw [if_neg h, if_neg (by rw [h2]; decide)]

theorem ofT_n1 {d : Df} {k : Nat} {o : Opn} (h : ¬ o.kind = 4) (h2 : roOk (rpN d) o.row = true) (h3 : lkN d k o.row = true) : ofT d k o = 7 := by
  unfold ofT; rw [if_neg h, if_pos h2, if_pos h3]

theorem ofT_n2 {d : Df} {k : Nat} {o : Opn} (h : ¬ o.kind = 4) (h2 : roOk (rpN d) o.row = true) (h3 : lkN d k o.row = false) : ofT d k o = 0 := by
  unfold ofT; rw [if_neg h, if_pos h2, if_neg (by rw [h3]; decide)]

/-- The code of an operation by itself, its kind apart. -/
noncomputable def ofN (s : List Df) (o : Opn) : Int := if h : 0 ≤ o.t ∧ o.t.toNat < s.length then ofT (s[o.t.toNat]'h.2) o.t.toNat o else 2

theorem ofN_n {s : List Df} {o : Opn} (h : ¬ (0 ≤ o.t ∧ o.t.toNat < s.length)) : ofN s o = 2 := dif_neg h

theorem ofN_y {s : List Df} {kd : Int} {row : List Vl} {k : Nat} (h : k < s.length) : ofN s ⟨kd, k, row⟩ = ofT s[k] k ⟨kd, k, row⟩ := by
  unfold ofN
  rw [dif_pos ⟨by simp, by simpa using h⟩]
  simp only [Int.toNat_natCast]

attribute [local irreducible] ofT ofN

set_option maxHeartbeats 2000000 in
set_option maxRecDepth 100000 in
theorem tx80 {s : List Df} {kd t : Int} {row : List Vl} (hf : fbN s = -1 := by first | assumption | omega | (simp; done) | (simp; omega)) (hs : zSc s ≤ 2000000 := by first | assumption | omega | (simp; done) | (simp; omega)) (hr : RvB row := by first | assumption | omega | (simp; done) | (simp; omega)) : T 80 [aE s, .val true [i6 kd, i6 t, slE false row]] [vI (ofN s ⟨kd, t, row⟩)] [none, none] := by
  refine w_call md [] Tryz.func80 rfl ?_
  obtain ⟨q1, q2⟩ := zSc_b hs
  have hrl := hr.1
  by_cases ht : inB t 0 ((s.length : Int) - 1) = true
  · have hb := inB_iff.1 ht
    obtain ⟨k, rfl⟩ : ∃ k : Nat, t = k := ⟨t.toNat, by omega⟩
    have h2 : k < s.length := by omega
    have hd := q2 k h2
    have hpl := ppN_len (d := s[k])
    have hrl2 := rpN_len (d := s[k])
    have hI : T 45 [aI (k : Nat), aI 0, aI ((s.length : Int) - 1)] [vB true] [none, none, none] := by
      have h := tx45 (n := k) (l := 0) (h := (s.length : Int) - 1)
      rwa [ht] at h
    rw [ofN_y h2]
    by_cases h4 : kd = 4
    · subst h4
      have hR : T 85 [aE (ppN s[k]), aE row] [vB (roOk (ppN s[k]) row)] [none, none] := tx85
      cases e : roOk (ppN s[k]) row
      · rw [e] at hR
        rw [ofT_40 rfl e]
        repeat' ((conv => whnf); (first | (apply cx45; refine kl (hI) ?_) | (apply cx85; refine kl (hR) ?_) | refine And.intro ⟨by omega, by omega⟩ (Exists.intro _ (And.intro (rdI (i := k) (by omega) (by omega)) ?_)) | (apply cx19; refine kl (tx19 (d := s[k])) ?_) | refine k0 ?_ | refine jA fun _ => ?_ | refine jB fun _ => ?_ | refine kC (fun _ => ?_) fun _ => ?_ | (apply cx45; refine kl tx45 ?_) | (apply cx19; refine kl tx19 ?_) | (apply cx85; refine kl tx85 ?_) | (apply cx50; refine kl tx50 ?_) | (apply cx14; refine kl tx14 ?_) | refine jst ?_ | exact ⟨rfl, rfl⟩ | exact jV | fail))
      · rw [e] at hR
        rw [ofT_41 rfl e]
        repeat' ((conv => whnf); (first | (apply cx45; refine kl (hI) ?_) | (apply cx85; refine kl (hR) ?_) | refine And.intro ⟨by omega, by omega⟩ (Exists.intro _ (And.intro (rdI (i := k) (by omega) (by omega)) ?_)) | (apply cx19; refine kl (tx19 (d := s[k])) ?_) | refine k0 ?_ | refine jA fun _ => ?_ | refine jB fun _ => ?_ | refine kC (fun _ => ?_) fun _ => ?_ | (apply cx45; refine kl tx45 ?_) | (apply cx19; refine kl tx19 ?_) | (apply cx85; refine kl tx85 ?_) | (apply cx50; refine kl tx50 ?_) | (apply cx14; refine kl tx14 ?_) | refine jst ?_ | exact ⟨rfl, rfl⟩ | exact jV | fail))
    · have hR : T 85 [aE (rpN s[k]), aE row] [vB (roOk (rpN s[k]) row)] [none, none] := tx85
      have hL : T 14 [aE s, aI (k : Nat), aE row] [vB (lkN s[k] k row)] [none, none, none] := tx14 hf h2
      cases e : roOk (rpN s[k]) row
      · rw [e] at hR
        rw [ofT_n0 h4 e]
        repeat' ((conv => whnf); (first | (apply cx45; refine kl (hI) ?_) | (apply cx85; refine kl (hR) ?_) | refine And.intro ⟨by omega, by omega⟩ (Exists.intro _ (And.intro (rdI (i := k) (by omega) (by omega)) ?_)) | (apply cx50; refine kl (tx50 (d := s[k])) ?_) | refine k0 ?_ | refine jA fun _ => ?_ | refine jB fun _ => ?_ | refine kC (fun _ => ?_) fun _ => ?_ | (apply cx45; refine kl tx45 ?_) | (apply cx19; refine kl tx19 ?_) | (apply cx85; refine kl tx85 ?_) | (apply cx50; refine kl tx50 ?_) | (apply cx14; refine kl tx14 ?_) | refine jst ?_ | exact ⟨rfl, rfl⟩ | exact jV | fail))
      · rw [e] at hR
        cases e2 : lkN s[k] k row
        · rw [e2] at hL
          rw [ofT_n2 h4 e e2]
          repeat' ((conv => whnf); (first | (apply cx45; refine kl (hI) ?_) | (apply cx85; refine kl (hR) ?_) | refine And.intro ⟨by omega, by omega⟩ (Exists.intro _ (And.intro (rdI (i := k) (by omega) (by omega)) ?_)) | (apply cx50; refine kl (tx50 (d := s[k])) ?_) | (apply cx14; refine kl (hL) ?_) | refine k0 ?_ | refine jA fun _ => ?_ | refine jB fun _ => ?_ | refine kC (fun _ => ?_) fun _ => ?_ | (apply cx45; refine kl tx45 ?_) | (apply cx19; refine kl tx19 ?_) | (apply cx85; refine kl tx85 ?_) | (apply cx50; refine kl tx50 ?_) | (apply cx14; refine kl tx14 ?_) | refine jst ?_ | exact ⟨rfl, rfl⟩ | exact jV | fail))
        · rw [e2] at hL
          rw [ofT_n1 h4 e e2]
          repeat' ((conv => whnf); (first | (apply cx45; refine kl (hI) ?_) | (apply cx85; refine kl (hR) ?_) | refine And.intro ⟨by omega, by omega⟩ (Exists.intro _ (And.intro (rdI (i := k) (by omega) (by omega)) ?_)) | (apply cx50; refine kl (tx50 (d := s[k])) ?_) | (apply cx14; refine kl (hL) ?_) | refine k0 ?_ | refine jA fun _ => ?_ | refine jB fun _ => ?_ | refine kC (fun _ => ?_) fun _ => ?_ | (apply cx45; refine kl tx45 ?_) | (apply cx19; refine kl tx19 ?_) | (apply cx85; refine kl tx85 ?_) | (apply cx50; refine kl tx50 ?_) | (apply cx14; refine kl tx14 ?_) | refine jst ?_ | exact ⟨rfl, rfl⟩ | exact jV | fail))
  · have hI : T 45 [aI t, aI 0, aI ((s.length : Int) - 1)] [vB false] [none, none, none] := by
      have h := tx45 (n := t) (l := 0) (h := (s.length : Int) - 1)
      rwa [bNt ht] at h
    rw [ofN_n (o := ⟨kd, t, row⟩) fun q => ht (inB_iff.2 (by simp only at q; omega))]
    repeat' ((conv => whnf); (first | (apply cx45; refine kl (hI) ?_) | refine k0 ?_ | refine jA fun _ => ?_ | refine jB fun _ => ?_ | refine kC (fun _ => ?_) fun _ => ?_ | (apply cx45; refine kl tx45 ?_) | (apply cx19; refine kl tx19 ?_) | (apply cx85; refine kl tx85 ?_) | (apply cx50; refine kl tx50 ?_) | (apply cx14; refine kl tx14 ?_) | refine jst ?_ | exact ⟨rfl, rfl⟩ | exact jV | fail))

theorem cx80 {P : Program} {X : FuncId → List Arg → List (Bool × List Cell) → List (Option (List Cell)) → Prop} {a : List Arg} {Q : List (Bool × List Cell) → List (Option (List Cell)) → Prop} (h : ∃ b vals outs, a = b ∧ D P X (.call 80 b vals outs) ∧ Q vals outs) : CallS P X 80 a Q := ⟨h⟩

set_option maxHeartbeats 2000000 in
set_option maxRecDepth 100000 in
theorem tx52 {s : List Df} {kd t : Int} {row : List Vl} (hf : fbN s = -1 := by first | assumption | omega | (simp; done) | (simp; omega)) (hs : zSc s ≤ 2000000 := by first | assumption | omega | (simp; done) | (simp; omega)) (hr : RvB row := by first | assumption | omega | (simp; done) | (simp; omega)) : T 52 [aE s, .val true [i6 kd, i6 t, slE false row]] [vI (if inB kd 1 4 = true then ofN s ⟨kd, t, row⟩ else 1)] [none, none] := by
  refine w_call md [] Tryz.func52 rfl ?_
  obtain ⟨q1, q2⟩ := zSc_b hs
  have hrl := hr.1
  by_cases hk : inB kd 1 4 = true
  · simp only [hk, if_true]
    have hK : T 39 [aI kd, aI 1, aI 4] [vB true] [none, none, none] := by
      have h := tx39 (n := kd) (l := 1) (h := 4)
      rwa [hk] at h
    by_cases ht : inB t 0 ((s.length : Int) - 1) = true
    · have hb := inB_iff.1 ht
      obtain ⟨k, rfl⟩ : ∃ k : Nat, t = k := ⟨t.toNat, by omega⟩
      have h2 : k < s.length := by omega
      have hd := q2 k h2
      have hpl := ppN_len (d := s[k])
      have hrl2 := rpN_len (d := s[k])
      have hI : T 39 [aI (k : Nat), aI 0, aI ((s.length : Int) - 1)] [vB true] [none, none, none] := by
        have h := tx39 (n := k) (l := 0) (h := (s.length : Int) - 1)
        rwa [ht] at h
      rw [ofN_y h2]
      by_cases h4 : kd = 4
      · subst h4
        have hR : T 92 [aE (ppN s[k]), aE row] [vB (roOk (ppN s[k]) row)] [none, none] := tx92
        cases e : roOk (ppN s[k]) row
        · rw [e] at hR
          rw [ofT_40 rfl e]
          repeat' ((conv => whnf); (first | (apply cx39; refine kl (hK) ?_) | (apply cx39; refine kl (hI) ?_) | (apply cx92; refine kl (hR) ?_) | refine And.intro ⟨by omega, by omega⟩ (Exists.intro _ (And.intro (rdI (i := k) (by omega) (by omega)) ?_)) | (apply cx11; refine kl (tx11 (d := s[k])) ?_) | refine k0 ?_ | refine jA fun _ => ?_ | refine jB fun _ => ?_ | refine kC (fun _ => ?_) fun _ => ?_ | (apply cx39; refine kl tx39 ?_) | (apply cx11; refine kl tx11 ?_) | (apply cx92; refine kl tx92 ?_) | (apply cx93; refine kl tx93 ?_) | (apply cx94; refine kl tx94 ?_) | refine jst ?_ | exact ⟨rfl, rfl⟩ | exact jV | fail))
        · rw [e] at hR
          rw [ofT_41 rfl e]
          repeat' ((conv => whnf); (first | (apply cx39; refine kl (hK) ?_) | (apply cx39; refine kl (hI) ?_) | (apply cx92; refine kl (hR) ?_) | refine And.intro ⟨by omega, by omega⟩ (Exists.intro _ (And.intro (rdI (i := k) (by omega) (by omega)) ?_)) | (apply cx11; refine kl (tx11 (d := s[k])) ?_) | refine k0 ?_ | refine jA fun _ => ?_ | refine jB fun _ => ?_ | refine kC (fun _ => ?_) fun _ => ?_ | (apply cx39; refine kl tx39 ?_) | (apply cx11; refine kl tx11 ?_) | (apply cx92; refine kl tx92 ?_) | (apply cx93; refine kl tx93 ?_) | (apply cx94; refine kl tx94 ?_) | refine jst ?_ | exact ⟨rfl, rfl⟩ | exact jV | fail))
      · have hR : T 92 [aE (rpN s[k]), aE row] [vB (roOk (rpN s[k]) row)] [none, none] := tx92
        have hL : T 94 [aE s, aI (k : Nat), aE row] [vB (lkN s[k] k row)] [none, none, none] := tx94 hf h2
        cases e : roOk (rpN s[k]) row
        · rw [e] at hR
          rw [ofT_n0 h4 e]
          repeat' ((conv => whnf); (first | (apply cx39; refine kl (hK) ?_) | (apply cx39; refine kl (hI) ?_) | (apply cx92; refine kl (hR) ?_) | refine And.intro ⟨by omega, by omega⟩ (Exists.intro _ (And.intro (rdI (i := k) (by omega) (by omega)) ?_)) | (apply cx93; refine kl (tx93 (d := s[k])) ?_) | refine k0 ?_ | refine jA fun _ => ?_ | refine jB fun _ => ?_ | refine kC (fun _ => ?_) fun _ => ?_ | (apply cx39; refine kl tx39 ?_) | (apply cx11; refine kl tx11 ?_) | (apply cx92; refine kl tx92 ?_) | (apply cx93; refine kl tx93 ?_) | (apply cx94; refine kl tx94 ?_) | refine jst ?_ | exact ⟨rfl, rfl⟩ | exact jV | fail))
        · rw [e] at hR
          cases e2 : lkN s[k] k row
          · rw [e2] at hL
            rw [ofT_n2 h4 e e2]
            repeat' ((conv => whnf); (first | (apply cx39; refine kl (hK) ?_) | (apply cx39; refine kl (hI) ?_) | (apply cx92; refine kl (hR) ?_) | refine And.intro ⟨by omega, by omega⟩ (Exists.intro _ (And.intro (rdI (i := k) (by omega) (by omega)) ?_)) | (apply cx93; refine kl (tx93 (d := s[k])) ?_) | (apply cx94; refine kl (hL) ?_) | refine k0 ?_ | refine jA fun _ => ?_ | refine jB fun _ => ?_ | refine kC (fun _ => ?_) fun _ => ?_ | (apply cx39; refine kl tx39 ?_) | (apply cx11; refine kl tx11 ?_) | (apply cx92; refine kl tx92 ?_) | (apply cx93; refine kl tx93 ?_) | (apply cx94; refine kl tx94 ?_) | refine jst ?_ | exact ⟨rfl, rfl⟩ | exact jV | fail))
          · rw [e2] at hL
            rw [ofT_n1 h4 e e2]
            repeat' ((conv => whnf); (first | (apply cx39; refine kl (hK) ?_) | (apply cx39; refine kl (hI) ?_) | (apply cx92; refine kl (hR) ?_) | refine And.intro ⟨by omega, by omega⟩ (Exists.intro _ (And.intro (rdI (i := k) (by omega) (by omega)) ?_)) | (apply cx93; refine kl (tx93 (d := s[k])) ?_) | (apply cx94; refine kl (hL) ?_) | refine k0 ?_ | refine jA fun _ => ?_ | refine jB fun _ => ?_ | refine kC (fun _ => ?_) fun _ => ?_ | (apply cx39; refine kl tx39 ?_) | (apply cx11; refine kl tx11 ?_) | (apply cx92; refine kl tx92 ?_) | (apply cx93; refine kl tx93 ?_) | (apply cx94; refine kl tx94 ?_) | refine jst ?_ | exact ⟨rfl, rfl⟩ | exact jV | fail))
    · have hI : T 39 [aI t, aI 0, aI ((s.length : Int) - 1)] [vB false] [none, none, none] := by
        have h := tx39 (n := t) (l := 0) (h := (s.length : Int) - 1)
        rwa [bNt ht] at h
      rw [ofN_n (o := ⟨kd, t, row⟩) fun q => ht (inB_iff.2 (by simp only at q; omega))]
      repeat' ((conv => whnf); (first | (apply cx39; refine kl (hK) ?_) | (apply cx39; refine kl (hI) ?_) | refine k0 ?_ | refine jA fun _ => ?_ | refine jB fun _ => ?_ | refine kC (fun _ => ?_) fun _ => ?_ | (apply cx39; refine kl tx39 ?_) | (apply cx11; refine kl tx11 ?_) | (apply cx92; refine kl tx92 ?_) | (apply cx93; refine kl tx93 ?_) | (apply cx94; refine kl tx94 ?_) | refine jst ?_ | exact ⟨rfl, rfl⟩ | exact jV | fail))
  · have hK : T 39 [aI kd, aI 1, aI 4] [vB false] [none, none, none] := by
      have h := tx39 (n := kd) (l := 1) (h := 4)
      rwa [bNt hk] at h
    simp only [bNt hk, Bool.false_eq_true, if_false]
    repeat' ((conv => whnf); (first | (apply cx39; refine kl (hK) ?_) | refine k0 ?_ | refine jA fun _ => ?_ | refine jB fun _ => ?_ | refine kC (fun _ => ?_) fun _ => ?_ | (apply cx39; refine kl tx39 ?_) | (apply cx11; refine kl tx11 ?_) | (apply cx92; refine kl tx92 ?_) | (apply cx93; refine kl tx93 ?_) | (apply cx94; refine kl tx94 ?_) | refine jst ?_ | exact ⟨rfl, rfl⟩ | exact jV | fail))

theorem cx52 {P : Program} {X : FuncId → List Arg → List (Bool × List Cell) → List (Option (List Cell)) → Prop} {a : List Arg} {Q : List (Bool × List Cell) → List (Option (List Cell)) → Prop} (h : ∃ b vals outs, a = b ∧ D P X (.call 52 b vals outs) ∧ Q vals outs) : CallS P X 52 a Q := ⟨h⟩

set_option maxHeartbeats 2000000 in
set_option maxRecDepth 100000 in
theorem tx82 {kd t : Int} {row : List Vl} {b : Bool} : T 82 [.val true [i6 kd, i6 t, slE false row], aB b] [vI (thN ⟨kd, t, row⟩ b)] [none, none] := by
  refine w_call md [] Tryz.func82 rfl ?_
  unfold thN
  simp only
  by_cases h1 : kd = 1
  · subst h1
    cases b
    · repeat' ((conv => whnf); (first | refine k0 ?_ | refine jA fun _ => ?_ | refine jB fun _ => ?_ | refine kC (fun _ => ?_) fun _ => ?_ | refine jst ?_ | exact ⟨rfl, rfl⟩ | exact jV | fail))
    · repeat' ((conv => whnf); (first | refine k0 ?_ | refine jA fun _ => ?_ | refine jB fun _ => ?_ | refine kC (fun _ => ?_) fun _ => ?_ | refine jst ?_ | exact ⟨rfl, rfl⟩ | exact jV | fail))
  · by_cases h3 : kd = 3
    · subst h3
      cases b
      · repeat' ((conv => whnf); (first | refine k0 ?_ | refine jA fun _ => ?_ | refine jB fun _ => ?_ | refine kC (fun _ => ?_) fun _ => ?_ | refine jst ?_ | exact ⟨rfl, rfl⟩ | exact jV | fail))
      · repeat' ((conv => whnf); (first | refine k0 ?_ | refine jA fun _ => ?_ | refine jB fun _ => ?_ | refine kC (fun _ => ?_) fun _ => ?_ | refine jst ?_ | exact ⟨rfl, rfl⟩ | exact jV | fail))
    · by_cases h4 : kd = 4
      · subst h4
        cases b
        · repeat' ((conv => whnf); (first | refine k0 ?_ | refine jA fun _ => ?_ | refine jB fun _ => ?_ | refine kC (fun _ => ?_) fun _ => ?_ | refine jst ?_ | exact ⟨rfl, rfl⟩ | exact jV | fail))
        · repeat' ((conv => whnf); (first | refine k0 ?_ | refine jA fun _ => ?_ | refine jB fun _ => ?_ | refine kC (fun _ => ?_) fun _ => ?_ | refine jst ?_ | exact ⟨rfl, rfl⟩ | exact jV | fail))
      · rw [if_neg (fun q => h1 q.1), if_neg (fun q => by rcases q.1 with q | q; exact h3 q; exact h4 q)]
        repeat' ((conv => whnf); (first | refine k0 ?_ | refine jA fun _ => ?_ | refine jB fun _ => ?_ | refine kC (fun _ => ?_) fun _ => ?_ | refine jst ?_ | exact ⟨rfl, rfl⟩ | exact jV | fail))

theorem cx82 {P : Program} {X : FuncId → List Arg → List (Bool × List Cell) → List (Option (List Cell)) → Prop} {a : List Arg} {Q : List (Bool × List Cell) → List (Option (List Cell)) → Prop} (h : ∃ b vals outs, a = b ∧ D P X (.call 82 b vals outs) ∧ Q vals outs) : CallS P X 82 a Q := ⟨h⟩

set_option maxHeartbeats 2000000 in
set_option maxRecDepth 100000 in
theorem tx55 {kd t : Int} {row : List Vl} {b : Bool} : T 55 [.val true [i6 kd, i6 t, slE false row], aB b] [vI (thN ⟨kd, t, row⟩ b)] [none, none] := by
  refine w_call md [] Tryz.func55 rfl ?_
  unfold thN
  simp only
  by_cases h1 : kd = 1
  · subst h1
    cases b
    · repeat' ((conv => whnf); (first | refine k0 ?_ | refine jA fun _ => ?_ | refine jB fun _ => ?_ | refine kC (fun _ => ?_) fun _ => ?_ | refine jst ?_ | exact ⟨rfl, rfl⟩ | exact jV | fail))
    · repeat' ((conv => whnf); (first | refine k0 ?_ | refine jA fun _ => ?_ | refine jB fun _ => ?_ | refine kC (fun _ => ?_) fun _ => ?_ | refine jst ?_ | exact ⟨rfl, rfl⟩ | exact jV | fail))
  · by_cases h3 : kd = 3
    · subst h3
      cases b
      · repeat' ((conv => whnf); (first | refine k0 ?_ | refine jA fun _ => ?_ | refine jB fun _ => ?_ | refine kC (fun _ => ?_) fun _ => ?_ | refine jst ?_ | exact ⟨rfl, rfl⟩ | exact jV | fail))
      · repeat' ((conv => whnf); (first | refine k0 ?_ | refine jA fun _ => ?_ | refine jB fun _ => ?_ | refine kC (fun _ => ?_) fun _ => ?_ | refine jst ?_ | exact ⟨rfl, rfl⟩ | exact jV | fail))
    · by_cases h4 : kd = 4
      · subst h4
        cases b
        · repeat' ((conv => whnf); (first | refine k0 ?_ | refine jA fun _ => ?_ | refine jB fun _ => ?_ | refine kC (fun _ => ?_) fun _ => ?_ | refine jst ?_ | exact ⟨rfl, rfl⟩ | exact jV | fail))
        · repeat' ((conv => whnf); (first | refine k0 ?_ | refine jA fun _ => ?_ | refine jB fun _ => ?_ | refine kC (fun _ => ?_) fun _ => ?_ | refine jst ?_ | exact ⟨rfl, rfl⟩ | exact jV | fail))
      · rw [if_neg (fun q => h1 q.1), if_neg (fun q => by rcases q.1 with q | q; exact h3 q; exact h4 q)]
        repeat' ((conv => whnf); (first | refine k0 ?_ | refine jA fun _ => ?_ | refine jB fun _ => ?_ | refine kC (fun _ => ?_) fun _ => ?_ | refine jst ?_ | exact ⟨rfl, rfl⟩ | exact jV | fail))

theorem cx55 {P : Program} {X : FuncId → List Arg → List (Bool × List Cell) → List (Option (List Cell)) → Prop} {a : List Arg} {Q : List (Bool × List Cell) → List (Option (List Cell)) → Prop} (h : ∃ b vals outs, a = b ∧ D P X (.call 55 b vals outs) ∧ Q vals outs) : CallS P X 55 a Q := ⟨h⟩

set_option maxHeartbeats 2000000 in
set_option maxRecDepth 100000 in
theorem tx81 {s : List Df} {kd : Int} {k : Nat} {row : List Vl} (h2 : k < s.length := by first | assumption | omega | (simp; done) | (simp; omega)) (hs : zSc s ≤ 2000000 := by first | assumption | omega | (simp; done) | (simp; omega)) (hr : row.length ≤ 2000000 := by first | assumption | omega | (simp; done) | (simp; omega)) : T 81 [aE s, .val true [i6 kd, i6 k, slE false row]] [(false, [slE false (kyD s[k] ⟨kd, k, row⟩)])] [none, none] := by
  refine w_call md [[3]] Tryz.func81 rfl ?_
  obtain ⟨q1, q2⟩ := zSc_b hs
  have hd := q2 k h2
  have hpl := ppN_len (d := s[k])
  by_cases h4 : kd = 4
  · subst h4
    rw [kyD_4 rfl]
    repeat' ((conv => whnf); (first | refine k0 ?_ | refine jA fun _ => ?_ | refine jB fun _ => ?_ | refine kC (fun _ => ?_) fun _ => ?_ | (apply cx19; refine kl tx19 ?_) | (apply cx18; refine kl tx18 ?_) | refine jst ?_ | exact ⟨rfl, rfl⟩ | exact jV | fail))
  · rw [kyD_n (o := ⟨kd, k, row⟩) h4]
    repeat' ((conv => whnf); (first | refine And.intro ⟨by omega, by omega⟩ (Exists.intro _ (And.intro (rdI (i := k) (by omega) (by omega)) ?_)) | (apply cx19; refine kl (tx19 (d := s[k])) ?_) | (apply cx18; refine kl (tx18 (l := ppN s[k]) (r := row)) ?_) | refine bstep (w_frz 131 (pkR (ppN s[k]) row)) ?_ | refine ⟨snc, cs false (pkR (ppN s[k]) row), cs_whole, ?_⟩ | refine k0 ?_ | refine jA fun _ => ?_ | refine jB fun _ => ?_ | refine kC (fun _ => ?_) fun _ => ?_ | (apply cx19; refine kl tx19 ?_) | (apply cx18; refine kl tx18 ?_) | refine jst ?_ | exact ⟨rfl, rfl⟩ | exact jV | fail))

theorem cx81 {P : Program} {X : FuncId → List Arg → List (Bool × List Cell) → List (Option (List Cell)) → Prop} {a : List Arg} {Q : List (Bool × List Cell) → List (Option (List Cell)) → Prop} (h : ∃ b vals outs, a = b ∧ D P X (.call 81 b vals outs) ∧ Q vals outs) : CallS P X 81 a Q := ⟨h⟩

set_option maxHeartbeats 2000000 in
set_option maxRecDepth 100000 in
theorem tx54 {s : List Df} {kd : Int} {k : Nat} {row : List Vl} (h2 : k < s.length := by first | assumption | omega | (simp; done) | (simp; omega)) (hs : zSc s ≤ 2000000 := by first | assumption | omega | (simp; done) | (simp; omega)) (hr : row.length ≤ 2000000 := by first | assumption | omega | (simp; done) | (simp; omega)) : T 54 [aE s, .val true [i6 kd, i6 k, slE false row]] [(false, [slE false (kyD s[k] ⟨kd, k, row⟩)])] [none, none] := by
  refine w_call md [[3]] Tryz.func54 rfl ?_
  obtain ⟨q1, q2⟩ := zSc_b hs
  have hd := q2 k h2
  have hpl := ppN_len (d := s[k])
  by_cases h4 : kd = 4
  · subst h4
    rw [kyD_4 rfl]
    repeat' ((conv => whnf); (first | refine k0 ?_ | refine jA fun _ => ?_ | refine jB fun _ => ?_ | refine kC (fun _ => ?_) fun _ => ?_ | (apply cx74; refine kl tx74 ?_) | refine jst ?_ | exact ⟨rfl, rfl⟩ | exact jV | fail))
  · rw [kyD_n (o := ⟨kd, k, row⟩) h4]
    repeat' ((conv => whnf); (first | refine And.intro ⟨by omega, by omega⟩ (Exists.intro _ (And.intro (rdI (i := k) (by omega) (by omega)) ?_)) | (apply cx74; refine kl (tx74 (d := s[k]) (r := row)) ?_) | refine bstep (w_frz 115 (pkR (ppN s[k]) row)) ?_ | refine ⟨snc, cs false (pkR (ppN s[k]) row), cs_whole, ?_⟩ | refine k0 ?_ | refine jA fun _ => ?_ | refine jB fun _ => ?_ | refine kC (fun _ => ?_) fun _ => ?_ | (apply cx74; refine kl tx74 ?_) | refine jst ?_ | exact ⟨rfl, rfl⟩ | exact jV | fail))

theorem cx54 {P : Program} {X : FuncId → List Arg → List (Bool × List Cell) → List (Option (List Cell)) → Prop} {a : List Arg} {Q : List (Bool × List Cell) → List (Option (List Cell)) → Prop} (h : ∃ b vals outs, a = b ∧ D P X (.call 54 b vals outs) ∧ Q vals outs) : CallS P X 54 a Q := ⟨h⟩
end

section
open Go Go.RowKit Go.IntWalk

open Enc (sz cs)

attribute [local irreducible] IntKind.wrap

/-! ### What an operation on right tables does -/

theorem atN_mem {plan : List Prt} {rows : List (List Vl)} {key : List Vl} {j : Nat} (h : atN plan rows key = j) : ∃ h : j < rows.length, pkR plan rows[j] = key := by
  have key2 : fstI rows.length (fun i => ∃ h : i < rows.length, pkR plan rows[i] = key) = -1 ∨ ∃ i, (∃ h : i < rows.length, pkR plan rows[i] = key) ∧ fstI rows.length (fun i => ∃ h : i < rows.length, pkR plan rows[i] = key) = (i : Int) := by
    unfold fstI
    split
    · rename_i hx
      exact .inr ⟨_, (Classical.choose_spec hx).2.1, rfl⟩
    · exact .inl rfl
  unfold atN at h
  rcases key2 with e | ⟨i, hi, e⟩
  · rw [e] at h; omega
  · rw [e] at h
    obtain rfl : i = j := by omega
    exact hi

theorem atN_nn {plan : List Prt} {rows : List (List Vl)} {key : List Vl} (h : ¬ 0 ≤ atN plan rows key) : atN plan rows key = -1 := by
  have key2 : fstI rows.length (fun i => ∃ h : i < rows.length, pkR plan rows[i] = key) = -1 ∨ ∃ i : Nat, fstI rows.length (fun i => ∃ h : i < rows.length, pkR plan rows[i] = key) = (i : Int) := by
    unfold fstI
    split
    · exact .inr ⟨_, rfl⟩
    · exact .inl rfl
  unfold atN at *
  rcases key2 with e | ⟨i, e⟩
  · exact e
  · rw [e] at h; omega

theorem key_inj {d : Df} {k : Nat} {rows : List (List Vl)} (h : ∀ j (hj : j < rows.length), RwI d k rows j hj) {i j : Nat} (hi : i < rows.length) (hj : j < rows.length) (e : pkR (ppN d) rows[i] = pkR (ppN d) rows[j]) : i = j := by
  rcases Nat.lt_trichotomy i j with q | q | q
  · obtain ⟨n, rfl⟩ : ∃ n, j = i + n + 1 := ⟨j - i - 1, by omega⟩
    exact absurd e (lk_ne (key_lt h n i hi hj))
  · exact q
  · obtain ⟨n, rfl⟩ : ∃ n, i = j + n + 1 := ⟨i - j - 1, by omega⟩
    exact absurd e.symm (lk_ne (key_lt h n j hj hi))

theorem at_iff {d : Df} {k : Nat} {rows : List (List Vl)} {key : List Vl} (h : ∀ j (hj : j < rows.length), RwI d k rows j hj) {i : Nat} (hi : i < rows.length) : ((i : Nat) : Int) = atN (ppN d) rows key ↔ pkR (ppN d) rows[i] = key := by
  constructor
  · intro q
    obtain ⟨_, e⟩ := atN_mem q.symm
    exact e
  · intro q
    exact (fstI_at hi ⟨hi, q⟩ (fun j hj p => by
      obtain ⟨hj2, p⟩ := p
      have := key_inj h hi hj2 (q.trans p.symm)
      omega)).symm

theorem tk_y {d : Df} {rows : List (List Vl)} {row : List Vl} {j : Nat} (hj : j < rows.length) (h : pkR (ppN d) rows[j] ≠ pkR (ppN d) row) (h2 : clN2 d rows[j] row = true) : tkN d rows row = true := by
  obtain ⟨i, hi, q⟩ := bOf_t h2
  exact bOf_y ⟨i, hi, q.uni, j, hj, q.by_, h⟩

theorem tk_n {d : Df} {rows : List (List Vl)} {row : List Vl} (h : ∀ j (hj : j < rows.length), pkR (ppN d) rows[j] ≠ pkR (ppN d) row → clN2 d rows[j] row = false) : tkN d rows row = false := bOf_n fun q => by
  obtain ⟨i, hi, q⟩ := q
  obtain ⟨j, hj, p⟩ := q.ex
  exact bOf_f (h j hj p.ne) ⟨i, hi, q.uni, p.by_⟩

/-- The row of a key is taken out. -/
theorem sgI_del {l : List Prt} {key row : List Vl} {rows : List (List Vl)} {j : Nat} (hj : j < rows.length) (h : pkR l rows[j] = key) (hn : ∀ i (hi : i < rows.length), pkR l rows[i] = key → i = j) : rows.foldl (sgI l key row) ([], true) = (rows.take j ++ rows.drop (j + 1), true) := by
  have e : rows = rows.take j ++ (rows[j] :: rows.drop (j + 1)) := by rw [← List.drop_eq_getElem_cons hj, List.take_append_drop]
  have h1 : (rows.take j).foldl (sgI l key row) ([], true) = ([] ++ rows.take j, true) := sgI_t fun r hr q => by
    obtain ⟨i, hi, rfl⟩ := List.getElem_of_mem hr
    simp only [List.length_take] at hi
    rw [List.getElem_take] at q
    have := hn i (by omega) q
    omega
  have h2 : (rows.drop (j + 1)).foldl (sgI l key row) (rows.take j, true) = (rows.take j ++ rows.drop (j + 1), true) := sgI_t fun r hr q => by
    obtain ⟨i, hi, rfl⟩ := List.getElem_of_mem hr
    simp only [List.length_drop] at hi
    rw [List.getElem_drop] at q
    have := hn (j + 1 + i) (by omega) q
    omega
  have h3 : sgI l key row (rows.take j, true) rows[j] = (rows.take j, true) := by simp only [sgI, if_pos h]
  calc rows.foldl (sgI l key row) ([], true) = (rows.take j ++ (rows[j] :: rows.drop (j + 1))).foldl (sgI l key row) ([], true) := by rw [← e]
    _ = _ := by rw [List.foldl_append, h1, List.nil_append, List.foldl_cons, h3, h2]

noncomputable abbrev sgT (l : List Prt) (key row : List Vl) (b : Bool) (rows : List (List Vl)) (i : Nat) : List (List Vl) × Bool := (rows.take i).foldl (sgI l key row) ([], b)

theorem sgT_suc {l : List Prt} {key row : List Vl} {b : Bool} {rows : List (List Vl)} {i : Nat} {x y : List (List Vl) × Bool} (h : i < rows.length) (e : sgT l key row b rows i = x) (e2 : sgI l key row x rows[i] = y) : sgT l key row b rows (i + 1) = y := by
  unfold sgT at *
  rw [take_one h, List.foldl_append, e]
  exact e2

theorem sgI_e {l : List Prt} {key row r : List Vl} {x : List (List Vl) × Bool} (h : pkR l r = key) : sgI l key row x r = x := if_pos h

theorem sgI_p {l : List Prt} {key row r : List Vl} {out : List (List Vl)} (h : ¬ pkR l r = key) : sgI l key row (out, true) r = (out ++ [r], true) := by
  simp only [sgI, if_neg h, Bool.true_eq_false, false_and, if_false]

theorem sgI_y {l : List Prt} {key row r : List Vl} {out : List (List Vl)} (h : ¬ pkR l r = key) (h2 : lkK l key (pkR l r) = true) : sgI l key row (out, false) r = (out ++ [row, r], true) := by
  simp only [sgI, if_neg h, h2, and_self, if_true]

theorem sgI_n {l : List Prt} {key row r : List Vl} {out : List (List Vl)} (h : ¬ pkR l r = key) (h2 : lkK l key (pkR l r) = false) : sgI l key row (out, false) r = (out ++ [r], false) := by
  simp only [sgI, if_neg h, h2, Bool.false_eq_true, and_false, if_false]

theorem sgT_len {l : List Prt} {key row : List Vl} {b : Bool} {rows : List (List Vl)} : ∀ {i : Nat}, i ≤ rows.length → (sgT l key row b rows i).1.length ≤ 2 * i
  | 0, _ => by simp [sgT]
  | i + 1, h => by
    have ih := sgT_len (l := l) (key := key) (row := row) (b := b) (i := i) (Nat.le_of_succ_le h)
    rw [sgT_suc (b := b) (x := sgT l key row b rows i) h rfl rfl]
    generalize sgT l key row b rows i = x at *
    unfold sgI
    split
    · omega
    · split <;> simp only [List.length_append, List.length_cons, List.length_nil] <;> omega

/-- A fresh slice that is put within as one that is only read. -/
theorem w_inF {α : Type} [Enc α] {n : Nat} {t h nx tn} (o : Bool) (i j : Nat) (A : List Cell) (xs : List α) (C : List Cell) (k s : Nat) {cs0 cs1 : List Cell} (h2 : A ++ [slE false xs] ++ C = cs1) (hij : Nat.beq i j = false := by rfl) (hi : look none h i = some (true, cs0) := by rfl) (hj : look none h j = some (true, cs o xs) := by rfl)
    (h1 : cs0 = A ++ [.ref j 0 k s] ++ C := by first | rfl | simp) (hk : xs.length = k := by first | rfl | simp) (hs : sz α = s := by rfl) :
    WGh n ⟨t, h, nx, tn⟩ ⟨t, (i, some (true, cs1)) :: (j, some (false, cs false xs)) :: h, nx, tn⟩ := by
  subst hk hs h1 h2
  have hne : ¬ j = i := fun e => by subst e; simp at hij
  refine (w_freeze j hj (cs_ro xs)).trans (w_node i (by rw [look_cons, if_neg hne]; exact hi) ?_)
  refine CWs.app (CWs.app (CWs.refl _) (.cons ?_ .nil)) (CWs.refl _)
  have e : slE false xs = .sl false xs.length (sz α) (((cs false xs).drop 0).take (xs.length * sz α)) := by rw [cs_whole]
  rw [e]
  exact .look (by rw [look_cons, if_pos rfl]) (by rw [cs_len]; omega) (by rw [cs_whole]; exact cs_shal xs)

/-- A slice in a variable is only read from here on. -/
theorem w_tmpF {α : Type} [Enc α] {n : Nat} {t h nx tn} (o : Bool) (a j : Nat) (xs : List α) (k s : Nat) (hi : look .undef t a = .v false [.ref j 0 k s] := by rfl) (hj : look none h j = some (true, cs o xs) := by rfl) (hk : xs.length = k := by first | rfl | simp) (hs : sz α = s := by rfl) (hlt : Nat.blt a tn = true := by rfl) :
    WGh n ⟨t, h, nx, tn⟩ ⟨(a, .v false [slE false xs]) :: t, (j, some (false, cs false xs)) :: h, nx, tn⟩ := by
  subst hk hs
  refine (w_freeze j hj (cs_ro xs)).trans (w_tmp a hi hlt ?_)
  have e : slE false xs = .sl false xs.length (sz α) (((cs false xs).drop 0).take (xs.length * sz α)) := by rw [cs_whole]
  rw [e]
  exact .v (.cons (.look (by rw [look_cons, if_pos rfl]) (by rw [cs_len]; omega) (by rw [cs_whole]; exact cs_shal xs)) .nil)

theorem ptTab {m : Tbs} {k : Nat} {c : List Cell} (h : k < m.length) (hc : c.length = 1 := by rfl) : put (cs true m) (k * 1) c = some (cs true (m.take k) ++ c ++ cs true (m.drop (k + 1))) := by
  show put (cs true m) (k * sz (List (List Vl))) c = _
  rw [cs_split h, ← Nat.add_zero (k * sz (List (List Vl))), put_mid (cs_take_len (by omega)).symm (put_all (by rw [Enc.len, hc]; rfl))]

theorem csTab {m : Tbs} {k : Nat} {y : List (List Vl)} (h : k < m.length) : roifyL (cs true (m.take k) ++ [slE false y] ++ cs true (m.drop (k + 1))) = cs false (m.set k y) := by
  have e : m.set k y = m.take k ++ [y] ++ m.drop (k + 1) := by
    rw [List.set_eq_take_append_cons_drop, if_pos h]; simp
  have e2 : roifyL [slE false y] = cs false [y] := cs_ro (o := false) [y]
  rw [e, roifyL_append, roifyL_append, cs_ro, cs_ro, Enc.app, Enc.app, e2]
end

end Go.Proofs.YtddikflnjloagaaGreatDoor
